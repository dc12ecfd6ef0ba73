/-
  Heads as values.
-/
import Derived.Test.YtaffgndickdbiaaGreatDoorData
namespace Go.Creel
set_option linter.unusedVariables false
set_option linter.unusedSimpArgs false
open Go.RowKit
/-- the numbers of a head -/
structure HeadN where
  nm : ByteArray
  px : ByteArray
  lk : ByteArray
  mode : Int
  uid : Int
  gid : Int
  size : Int
  time : Int
  typ : UInt8
  user : ByteArray
  group : ByteArray
def HeadN.cells (n : HeadN) : List Value := [.string n.nm, .string n.px, .string n.lk, .int .i64 n.mode, .int .i64 n.uid, .int .i64 n.gid, .int .i64 n.size, .int .i64 n.time, .int .u8 n.typ.toNat, .string n.user, .string n.group]
structure HeadN.Ok (N : Nat) (n : HeadN) : Prop where
  nm : n.nm.size ≤ N
  px : n.px.size ≤ N
  lk : n.lk.size ≤ N
  mode : i64 n.mode
  uid : i64 n.uid
  gid : i64 n.gid
  size : i64 n.size
  time : i64 n.time
  user : n.user.size ≤ N
  group : n.group.size ≤ N
def HeadC (N : Nat) (_ : World) (cs : List Value) (n : HeadN) : Prop := cs = n.cells ∧ n.Ok N
end Go.Creel
namespace Go.Proofs.YtaffgndickdbiaaGreatDoor
open Go.Creel Go.ChangeShapes
section
variable {H : Type} {enc : TypeId × Value → H} {W : World} {S : DataW H → Prop} {N : Nat}
theorem opens_Head (hS : Bd H S N) : Opens enc Tryz.prog W S 62 (HeadC N) := by
  intro fuel cs x h hx
  have hu := Tryz.underlying62
  have hl := (opens_len hu h).trans (show Tryz.prog.cellsOf 62 = 11 by kernel_rfl)
  obtain ⟨a0, h0⟩ := opens_field hS hu h hx 0 0 1 rfl rfl (by kernel_rfl) (opens_Str hS)
  obtain ⟨a1, h1⟩ := opens_field hS hu h hx 1 1 1 rfl rfl (by kernel_rfl) (opens_Str hS)
  obtain ⟨a2, h2⟩ := opens_field hS hu h hx 2 2 1 rfl rfl (by kernel_rfl) (opens_Str hS)
  obtain ⟨a3, h3⟩ := opens_field hS hu h hx 3 3 1 rfl rfl (by kernel_rfl) opens_Int
  obtain ⟨a4, h4⟩ := opens_field hS hu h hx 4 4 1 rfl rfl (by kernel_rfl) opens_Int
  obtain ⟨a5, h5⟩ := opens_field hS hu h hx 5 5 1 rfl rfl (by kernel_rfl) opens_Int
  obtain ⟨a6, h6⟩ := opens_field hS hu h hx 6 6 1 rfl rfl (by kernel_rfl) opens_Int
  obtain ⟨a7, h7⟩ := opens_field hS hu h hx 7 7 1 rfl rfl (by kernel_rfl) opens_Int
  obtain ⟨a8, h8⟩ := opens_field hS hu h hx 8 8 1 rfl rfl (by kernel_rfl) (opens_byte Tryz.underlying5)
  obtain ⟨a9, h9⟩ := opens_field hS hu h hx 9 9 1 rfl rfl (by kernel_rfl) (opens_Str hS)
  obtain ⟨a10, h10⟩ := opens_field hS hu h hx 10 10 1 rfl rfl (by kernel_rfl) (opens_Str hS)
  obtain ⟨c0, c1, c2, c3, c4, c5, c6, c7, c8, c9, c10, rfl⟩ : ∃ c0 c1 c2 c3 c4 c5 c6 c7 c8 c9 c10, cs = [c0, c1, c2, c3, c4, c5, c6, c7, c8, c9, c10] := by
    match cs, hl with
    | [c0, c1, c2, c3, c4, c5, c6, c7, c8, c9, c10], _ => exact ⟨c0, c1, c2, c3, c4, c5, c6, c7, c8, c9, c10, rfl⟩
  simp only [StrC, IntC, ByteC, List.drop, List.take, List.cons.injEq, and_true] at h0 h1 h2 h3 h4 h5 h6 h7 h8 h9 h10
  exact ⟨⟨a0, a1, a2, a3, a4, a5, a6, a7, a8, a9, a10⟩, by rw [h0.1, h1.1, h2.1, h3.1, h4.1, h5.1, h6.1, h7.1, h8, h9.1, h10.1]; rfl, h0.2, h1.2, h2.2, h3.2, h4.2, h5.2, h6.2, h7.2, h9.2, h10.2⟩
end
end Go.Proofs.YtaffgndickdbiaaGreatDoor
namespace Go.Creel
set_option linter.unusedVariables false
set_option linter.unusedSimpArgs false
open Go.RowKit
/-- the head in a box of its own -/
def HeadAt (w : World) (b : Nat) (n : HeadN) : Prop := w.cell? ⟨b, 0, none⟩ = some (.string n.nm) ∧ w.cell? ⟨b, 1, none⟩ = some (.string n.px) ∧ w.cell? ⟨b, 2, none⟩ = some (.string n.lk) ∧ w.cell? ⟨b, 3, none⟩ = some (.int .i64 n.mode) ∧ w.cell? ⟨b, 4, none⟩ = some (.int .i64 n.uid) ∧ w.cell? ⟨b, 5, none⟩ = some (.int .i64 n.gid) ∧ w.cell? ⟨b, 6, none⟩ = some (.int .i64 n.size) ∧ w.cell? ⟨b, 7, none⟩ = some (.int .i64 n.time) ∧ w.cell? ⟨b, 8, none⟩ = some (.int .u8 n.typ.toNat) ∧ w.cell? ⟨b, 9, none⟩ = some (.string n.user) ∧ w.cell? ⟨b, 10, none⟩ = some (.string n.group)
abbrev headBox (n : HeadN) (t : TypeId) : Obj := .cells #[.string n.nm, .string n.px, .string n.lk, .int .i64 n.mode, .int .i64 n.uid, .int .i64 n.gid, .int .i64 n.size, .int .i64 n.time, .int .u8 n.typ.toNat, .string n.user, .string n.group] t
theorem headAt_box (w : World) (n : HeadN) (t : TypeId) : HeadAt (w.alloc (headBox n t)) w.heap.size n := by
  refine ⟨?_, ?_, ?_, ?_, ?_, ?_, ?_, ?_, ?_, ?_, ?_⟩ <;> simp [World.cell?_alloc_new]
theorem HeadAt.lt {w : World} {b : Nat} {n : HeadN} (h : HeadAt w b n) : b < w.heap.size := World.block_lt_of_cell? w _ h.1
theorem HeadAt.below {w w' : World} {b B : Nat} {n : HeadN} (h : HeadAt w b n) (hb : Below B w w') (hlt : b < B) : HeadAt w' b n := by
  obtain ⟨h0, h1, h2, h3, h4, h5, h6, h7, h8, h9, h10⟩ := h
  exact ⟨(hb.cell (p := ⟨b, 0, none⟩) hlt).trans h0, (hb.cell (p := ⟨b, 1, none⟩) hlt).trans h1, (hb.cell (p := ⟨b, 2, none⟩) hlt).trans h2, (hb.cell (p := ⟨b, 3, none⟩) hlt).trans h3, (hb.cell (p := ⟨b, 4, none⟩) hlt).trans h4, (hb.cell (p := ⟨b, 5, none⟩) hlt).trans h5, (hb.cell (p := ⟨b, 6, none⟩) hlt).trans h6, (hb.cell (p := ⟨b, 7, none⟩) hlt).trans h7, (hb.cell (p := ⟨b, 8, none⟩) hlt).trans h8, (hb.cell (p := ⟨b, 9, none⟩) hlt).trans h9, (hb.cell (p := ⟨b, 10, none⟩) hlt).trans h10⟩
theorem below_drawN {B : Nat} {a w : World} {n : Nat} (h : Below B a w) : Below B a (w.drewN n) := h.trans ⟨rfl, rfl, rfl, Nat.le_refl _, fun _ _ => rfl⟩
end Go.Creel
namespace Go.Proofs.YtaffgndickdbiaaGreatDoor
open Go.Creel Go.RowKit
abbrev HeadN.val' (n : HeadN) : Value := .agg #[.string n.nm, .string n.px, .string n.lk, .int .i64 n.mode, .int .i64 n.uid, .int .i64 n.gid, .int .i64 n.size, .int .i64 n.time, .int .u8 n.typ.toNat, .string n.user, .string n.group]
end Go.Proofs.YtaffgndickdbiaaGreatDoor
