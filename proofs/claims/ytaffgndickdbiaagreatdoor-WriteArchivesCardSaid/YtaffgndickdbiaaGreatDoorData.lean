/-
  The program's plain types as Lean's, and what a reading at each says of the cells.
-/
import Derived.Test.YtaffgndickdbiaaGreatDoorRows
import Derived.Test.YtaffgndickdbiaaGreatDoorBase
namespace Go.Creel
structure Rec where
  key : ByteArray
  value : ByteArray
def RecC (N : Nat) (_ : World) (cs : List Value) (r : Rec) : Prop := cs = [.string r.key, .string r.value] ∧ r.key.size ≤ N ∧ r.value.size ≤ N
structure Meta where
  mode : Int
  uid : Int
  gid : Int
  user : ByteArray
  group : ByteArray
  second : Int
  nano : Int
def Meta.cells (m : Meta) : List Value := [.int .i64 m.mode, .int .i64 m.uid, .int .i64 m.gid, .string m.user, .string m.group, .int .i64 m.second, .int .i64 m.nano]
def i64 (n : Int) : Prop := -9223372036854775808 ≤ n ∧ n ≤ 9223372036854775807
structure Meta.Ok (N : Nat) (m : Meta) : Prop where
  mode : i64 m.mode
  uid : i64 m.uid
  gid : i64 m.gid
  user : m.user.size ≤ N
  group : m.group.size ≤ N
  second : i64 m.second
  nano : i64 m.nano
def MetaC (N : Nat) (_ : World) (cs : List Value) (m : Meta) : Prop := cs = m.cells ∧ m.Ok N

end Go.Creel

namespace Go.Proofs.YtaffgndickdbiaaGreatDoor
open Go.Creel Go.ChangeShapes
section
variable {H : Type} {enc : TypeId × Value → H} {W : World} {S : DataW H → Prop} {N : Nat}
theorem opens_Str (hS : Bd H S N) : Opens enc Tryz.prog W S 9 (StrC N) := opens_str hS Tryz.underlying9
theorem opens_Int : Opens enc Tryz.prog W S 3 IntC := opens_int Tryz.underlying3
theorem opens_Bytes (hS : Bd H S N) : Opens enc Tryz.prog W S 24 (SliceC N 1 ByteC) := opens_slice hS Tryz.underlying24 (by kernel_rfl) (by decide) (opens_byte Tryz.underlying5)
theorem opens_Rec (hS : Bd H S N) : Opens enc Tryz.prog W S 85 (RecC N) := by
  intro fuel cs x h hx
  have hu := Tryz.underlying85
  have hl := (opens_len hu h).trans (show Tryz.prog.cellsOf 85 = 2 by kernel_rfl)
  obtain ⟨a0, h0⟩ := opens_field hS hu h hx 0 0 1 rfl rfl (by kernel_rfl) (opens_Str hS)
  obtain ⟨a1, h1⟩ := opens_field hS hu h hx 1 1 1 rfl rfl (by kernel_rfl) (opens_Str hS)
  obtain ⟨c0, c1, rfl⟩ : ∃ c0 c1, cs = [c0, c1] := by
    match cs, hl with
    | [c0, c1], _ => exact ⟨c0, c1, rfl⟩
  simp [StrC] at h0 h1
  exact ⟨⟨a0, a1⟩, by rw [h0.1, h1.1], h0.2, h1.2⟩
theorem opens_Recs (hS : Bd H S N) : Opens enc Tryz.prog W S 63 (SliceC N 2 (RecC N)) := opens_slice hS Tryz.underlying63 (by kernel_rfl) (by decide) (opens_Rec hS)
theorem opens_Meta (hS : Bd H S N) : Opens enc Tryz.prog W S 23 (MetaC N) := by
  intro fuel cs x h hx
  have hu := Tryz.underlying23
  have hl := (opens_len hu h).trans (show Tryz.prog.cellsOf 23 = 7 by kernel_rfl)
  obtain ⟨a0, h0⟩ := opens_field hS hu h hx 0 0 1 rfl rfl (by kernel_rfl) opens_Int
  obtain ⟨a1, h1⟩ := opens_field hS hu h hx 1 1 1 rfl rfl (by kernel_rfl) opens_Int
  obtain ⟨a2, h2⟩ := opens_field hS hu h hx 2 2 1 rfl rfl (by kernel_rfl) opens_Int
  obtain ⟨a3, h3⟩ := opens_field hS hu h hx 3 3 1 rfl rfl (by kernel_rfl) (opens_Str hS)
  obtain ⟨a4, h4⟩ := opens_field hS hu h hx 4 4 1 rfl rfl (by kernel_rfl) (opens_Str hS)
  obtain ⟨a5, h5⟩ := opens_field hS hu h hx 5 5 1 rfl rfl (by kernel_rfl) opens_Int
  obtain ⟨a6, h6⟩ := opens_field hS hu h hx 6 6 1 rfl rfl (by kernel_rfl) opens_Int
  obtain ⟨c0, c1, c2, c3, c4, c5, c6, rfl⟩ : ∃ c0 c1 c2 c3 c4 c5 c6, cs = [c0, c1, c2, c3, c4, c5, c6] := by
    match cs, hl with
    | [c0, c1, c2, c3, c4, c5, c6], _ => exact ⟨c0, c1, c2, c3, c4, c5, c6, rfl⟩
  simp [StrC, IntC] at h0 h1 h2 h3 h4 h5 h6
  exact ⟨⟨a0, a1, a2, a3, a4, a5, a6⟩, by rw [h0.1, h1.1, h2.1, h3.1, h4.1, h5.1, h6.1]; rfl, h0.2, h1.2, h2.2, h3.2, h4.2, h5.2, h6.2⟩
end
end Go.Proofs.YtaffgndickdbiaaGreatDoor
