/-
  creelref.power.
-/
import Derived.Test.YtaffgndickdbiaaGreatDoorData
namespace Go.Proofs.YtaffgndickdbiaaGreatDoor
set_option linter.unusedVariables false
open Go.Creel Go.RowKit
set_option maxRecDepth 100000 in
set_option maxHeartbeats 400000 in
theorem power_any (m : Nat) (w : World) (h : m ≤ 20) :
    Calls Tryz.prog 206 #[.int .i64 m] w fun e w' => e = .returned (.int .i64 ((8 ^ m : Nat) : Int)) ∧ w = w' := by
  go_enter Tryz.func206, Tryz.ntmps206
  go_wp2
  go_loop [3, 4] (fun n i => ∃ k : Nat, k ≤ m ∧ i = .int .i64 k ∧ n = .int .i64 ((8 ^ k : Nat) : Int)) (fun _ i => m - (intOf i).toNat)
  case atStart => exact ⟨0, by omega, rfl, rfl⟩
  case round =>
    obtain ⟨k, hk, rfl, rfl⟩ := hrel
    by_cases hlt : k < m
    · have h1 : 8 ^ k ≤ 8 ^ 19 := Nat.pow_le_pow_right (by decide) (by omega)
      have HS := Lib.hid (show 8 ^ (k + 1) = 8 ^ k * 8 from Nat.pow_succ _ _)
      generalize 8 ^ k = p at *
      have h2 : p ≤ 144115188075855872 := by simpa using h1
      clear h1
      go_wp2
      go_round
      case rel => exact ⟨k + 1, by omega, by go_num, by rw [HS.out]; go_num⟩
      case measure => simp [intOf]; omega
    · have hk' : k = m := by omega
      subst hk'
      go_wp2
      go_ret
      exact ⟨rfl, rfl⟩
end Go.Proofs.YtaffgndickdbiaaGreatDoor
