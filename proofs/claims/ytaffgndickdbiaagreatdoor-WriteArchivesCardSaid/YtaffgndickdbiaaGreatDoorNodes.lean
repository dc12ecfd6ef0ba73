/-
  Nodes and entries: what a reading at them says of the cells.
-/
import Derived.Test.YtaffgndickdbiaaGreatDoorData
namespace Go.Creel
structure Ent where
  path : ByteArray
  kind : Int
  target : ByteArray
  mt : Meta
  da : Option Addr
  dcap : Nat
  data : List UInt8
def Ent.cells (e : Ent) : List Value := [.string e.path, .int .i64 e.kind, .string e.target, .int .i64 e.mt.mode, .int .i64 e.mt.uid, .int .i64 e.mt.gid, .string e.mt.user, .string e.mt.group, .int .i64 e.mt.second, .int .i64 e.mt.nano, .slice e.da e.data.length e.dcap]
structure Ent.Ok (N : Nat) (w : World) (e : Ent) : Prop where
  path : e.path.size ≤ N
  kind : i64 e.kind
  target : e.target.size ≤ N
  mt : e.mt.Ok N
  data : SliceC N 1 ByteC w [.slice e.da e.data.length e.dcap] e.data
def EntC (N : Nat) (w : World) (cs : List Value) (e : Ent) : Prop := cs = e.cells ∧ e.Ok N w
structure Nod where
  path : ByteArray
  kind : Int
  same : Int
  target : ByteArray
  mt : Meta
  da : Option Addr
  dcap : Nat
  data : List UInt8
def Nod.cells (e : Nod) : List Value := [.string e.path, .int .i64 e.kind, .int .i64 e.same, .string e.target, .int .i64 e.mt.mode, .int .i64 e.mt.uid, .int .i64 e.mt.gid, .string e.mt.user, .string e.mt.group, .int .i64 e.mt.second, .int .i64 e.mt.nano, .slice e.da e.data.length e.dcap]
structure Nod.Ok (N : Nat) (w : World) (e : Nod) : Prop where
  path : e.path.size ≤ N
  kind : i64 e.kind
  same : i64 e.same
  target : e.target.size ≤ N
  mt : e.mt.Ok N
  data : SliceC N 1 ByteC w [.slice e.da e.data.length e.dcap] e.data
def NodC (N : Nat) (w : World) (cs : List Value) (e : Nod) : Prop := cs = e.cells ∧ e.Ok N w
end Go.Creel
namespace Go.Proofs.YtaffgndickdbiaaGreatDoor
open Go.Creel Go.ChangeShapes
section
variable {H : Type} {enc : TypeId × Value → H} {W : World} {S : DataW H → Prop} {N : Nat}
theorem opens_Entry (hS : Bd H S N) : Opens enc Tryz.prog W S 26 (EntC N) := by
  intro fuel cs x h hx
  have hu := Tryz.underlying26
  have hl := (opens_len hu h).trans (show Tryz.prog.cellsOf 26 = 11 by kernel_rfl)
  obtain ⟨a0, h0⟩ := opens_field hS hu h hx 0 0 1 rfl rfl (by kernel_rfl) (opens_Str hS)
  obtain ⟨a1, h1⟩ := opens_field hS hu h hx 1 1 1 rfl rfl (by kernel_rfl) opens_Int
  obtain ⟨a2, h2⟩ := opens_field hS hu h hx 2 2 1 rfl rfl (by kernel_rfl) (opens_Str hS)
  obtain ⟨a3, h3⟩ := opens_field hS hu h hx 3 3 7 rfl rfl (by kernel_rfl) (opens_Meta hS)
  obtain ⟨a4, h4⟩ := opens_field hS hu h hx 4 10 1 rfl rfl (by kernel_rfl) (opens_Bytes hS)
  obtain ⟨c0, c1, c2, c3, c4, c5, c6, c7, c8, c9, c10, rfl⟩ : ∃ c0 c1 c2 c3 c4 c5 c6 c7 c8 c9 c10, cs = [c0, c1, c2, c3, c4, c5, c6, c7, c8, c9, c10] := by
    match cs, hl with
    | [c0, c1, c2, c3, c4, c5, c6, c7, c8, c9, c10], _ => exact ⟨c0, c1, c2, c3, c4, c5, c6, c7, c8, c9, c10, rfl⟩
  simp only [StrC, IntC, MetaC, List.drop, List.take, Meta.cells, List.cons.injEq, and_true] at h0 h1 h2 h3
  have h4' := h4
  obtain ⟨da, dcap, hc, hr⟩ := h4
  have hc10 : c10 = .slice da a4.length dcap := by simpa using hc
  subst hc10
  obtain ⟨⟨rfl, rfl, rfl, rfl, rfl, rfl, rfl⟩, hm⟩ := h3
  exact ⟨⟨a0, a1, a2, a3, da, dcap, a4⟩, by rw [h0.1, h1.1, h2.1]; rfl, h0.2, h1.2, h2.2, hm, ⟨da, dcap, rfl, hr⟩⟩
theorem opens_Node (hS : Bd H S N) : Opens enc Tryz.prog W S 99 (NodC N) := by
  intro fuel cs x h hx
  have hu := Tryz.underlying99
  have hl := (opens_len hu h).trans (show Tryz.prog.cellsOf 99 = 12 by kernel_rfl)
  obtain ⟨a0, h0⟩ := opens_field hS hu h hx 0 0 1 rfl rfl (by kernel_rfl) (opens_Str hS)
  obtain ⟨a1, h1⟩ := opens_field hS hu h hx 1 1 1 rfl rfl (by kernel_rfl) opens_Int
  obtain ⟨a5, h5⟩ := opens_field hS hu h hx 2 2 1 rfl rfl (by kernel_rfl) opens_Int
  obtain ⟨a2, h2⟩ := opens_field hS hu h hx 3 3 1 rfl rfl (by kernel_rfl) (opens_Str hS)
  obtain ⟨a3, h3⟩ := opens_field hS hu h hx 4 4 7 rfl rfl (by kernel_rfl) (opens_Meta hS)
  obtain ⟨a4, h4⟩ := opens_field hS hu h hx 5 11 1 rfl rfl (by kernel_rfl) (opens_Bytes hS)
  obtain ⟨c0, c1, c2, c3, c4, c5, c6, c7, c8, c9, c10, c11, rfl⟩ : ∃ c0 c1 c2 c3 c4 c5 c6 c7 c8 c9 c10 c11, cs = [c0, c1, c2, c3, c4, c5, c6, c7, c8, c9, c10, c11] := by
    match cs, hl with
    | [c0, c1, c2, c3, c4, c5, c6, c7, c8, c9, c10, c11], _ => exact ⟨c0, c1, c2, c3, c4, c5, c6, c7, c8, c9, c10, c11, rfl⟩
  simp only [StrC, IntC, MetaC, List.drop, List.take, Meta.cells, List.cons.injEq, and_true] at h0 h1 h2 h3 h5
  obtain ⟨da, dcap, hc, hr⟩ := h4
  have hc11 : c11 = .slice da a4.length dcap := by simpa using hc
  subst hc11
  obtain ⟨⟨rfl, rfl, rfl, rfl, rfl, rfl, rfl⟩, hm⟩ := h3
  exact ⟨⟨a0, a1, a5, a2, a3, da, dcap, a4⟩, by rw [h0.1, h1.1, h2.1, h5.1]; rfl, h0.2, h1.2, h5.2, h2.2, hm, ⟨da, dcap, rfl, hr⟩⟩
end
end Go.Proofs.YtaffgndickdbiaaGreatDoor
