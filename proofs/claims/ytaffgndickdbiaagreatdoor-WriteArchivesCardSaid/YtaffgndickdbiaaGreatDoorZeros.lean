/-
  Texts of bytes 0: strings.Repeat at one byte, the reference's 'zeros'.
-/
import Derived.Test.YtaffgndickdbiaaGreatDoorText
import Derived.Test.YtaffgndickdbiaaGreatDoorShelf
namespace Go.Creel
set_option linter.unusedVariables false
theorem repeatL_one (c : UInt8) (n : Nat) : Lib.repeatL [c] n = List.replicate n c := by
  induction n with
  | zero => rfl
  | succ n ih => simp [Lib.repeatL, List.replicate_succ, ih]
def zerosS (n : Nat) : ByteArray := ofL (List.replicate n 0)
theorem zerosS_size (n : Nat) : (zerosS n).size = n := by simp [zerosS, ofL_size]
theorem zerosS_succ (n : Nat) : zerosS n ++ ofL [0] = zerosS (n + 1) := by
  unfold zerosS
  rw [ofL_append, List.replicate_succ']
end Go.Creel
namespace Go.Proofs.YtaffgndickdbiaaGreatDoor
set_option linter.unusedVariables false
open Go.Creel Go.RowKit
theorem Repeat0_any (c : Int) (w : World) (h0 : 0 ≤ c) (h1 : c ≤ 1000000) :
    Calls Tryz.prog 98 #[.string ⟨#[0]⟩, .int .i64 c] w fun e w' => e = .returned (.string (zerosS c.toNat)) ∧ Below w.heap.size w w' := by
  obtain ⟨n, rfl⟩ := Int.eq_ofNat_of_zero_le h0
  have := Tryz.strings_Repeat ⟨#[0]⟩ n w (by omega) (by show 1 * n ≤ _; omega)
  refine this.mono ?_
  rintro e w' ⟨rfl, hb⟩
  refine ⟨?_, hb⟩
  show Ending.returned (.string ⟨(Lib.repeatL [0] n).toArray⟩) = _
  rw [repeatL_one]
  rfl
set_option maxRecDepth 100000 in
theorem zeros_any (c : Int) (w : World) (h0 : 0 ≤ c) (h1 : c ≤ 1000000) :
    Calls Tryz.prog 60 #[.int .i64 c] w fun e w' => e = .returned (.string (zerosS c.toNat)) ∧ w = w' := by
  obtain ⟨n, rfl⟩ := Int.eq_ofNat_of_zero_le h0
  rw [Int.toNat_natCast]
  have hn : n ≤ 1000000 := by omega
  clear h0 h1
  go_enter Tryz.func60, Tryz.ntmps60
  go_wp2
  go_loop [3, 4] (fun s i => ∃ k : Nat, k ≤ n ∧ i = .int .i64 k ∧ s = .string (zerosS k)) (fun _ i => n - (intOf i).toNat)
  case atStart => exact ⟨0, by omega, rfl, rfl⟩
  case round =>
    obtain ⟨k, hk, rfl, rfl⟩ := hrel
    by_cases hlt : k < n
    · have HS := Lib.hid (zerosS_succ k)
      have hz : (zerosS k).size ≤ 1000000 := by rw [zerosS_size]; omega
      generalize zerosS k = s at *
      go_wp2
      go_round
      case rel => exact ⟨k + 1, by omega, by go_num, congrArg Value.string HS.out⟩
      case measure => simp [intOf]; omega
    · obtain rfl : k = n := by omega
      go_wp2
      go_ret
      exact ⟨rfl, rfl⟩
end Go.Proofs.YtaffgndickdbiaaGreatDoor
