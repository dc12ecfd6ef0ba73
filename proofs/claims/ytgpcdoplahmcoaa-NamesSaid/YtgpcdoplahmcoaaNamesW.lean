/-
  The law Names, walked: fifteen numbers in a row.
-/
import Derived.Test.YtgpcdoplahmcoaaData
namespace Go.Proofs.Ytgpcdoplahmcoaa
set_option linter.unusedVariables false
open Go.Creel Go.RowKit
def fifteen : Array Value := #[.int .i64 0, .int .i64 1, .int .i64 2, .int .i64 3, .int .i64 4, .int .i64 5, .int .i64 6, .int .i64 7, .int .i64 8, .int .i64 9, .int .i64 10, .int .i64 11, .int .i64 12, .int .i64 13, .int .i64 14]
theorem fifteen_at (w : World) (t k : Nat) (h : k < 15) : (w.alloc (.cells fifteen t)).cell? ⟨w.heap.size, k, none⟩ = some (.int .i64 k) := by
  rw [World.cell?_alloc_mark w fifteen t (0, 0) k]
  match k, h with
  | 0, _ | 1, _ | 2, _ | 3, _ | 4, _ | 5, _ | 6, _ | 7, _ | 8, _ | 9, _ | 10, _ | 11, _ | 12, _ | 13, _ | 14, _ => rfl
set_option maxRecDepth 100000 in
set_option maxHeartbeats 800000 in
theorem names_walk (w : World) :
    Calls Try.prog 3 #[] w fun e w' => e = .returned (.bool true) ∧ Below w.heap.size w w' := by
  go_enter Try.func3, Try.ntmps3
  go_wp2
  have hat := fifteen_at w 22
  have hB := (Below.refl w.heap.size w).alloc (Nat.le_refl _) (.cells fifteen 22)
  unfold fifteen at hat hB
  generalize World.alloc w _ = w1 at *
  have Hat := Lib.hid hat
  clear hat
  go_loop [2, 3, 7] (fun _ _ i => ∃ k : Nat, k ≤ 15 ∧ i = .int .i64 k) (fun _ _ i => 15 - (intOf i).toNat)
  case atStart => exact ⟨0, by omega, rfl⟩
  case round =>
    obtain ⟨k, hk, rfl⟩ := hrel
    by_cases hlt : k < 15
    · have hc := Hat.out k hlt
      go_wp2
      go_round
      case rel => exact ⟨k + 1, by omega, by go_num⟩
      case measure => simp [intOf]; omega
    · have hk : k = 15 := by omega
      subst hk
      go_wp2
      go_ret
      exact ⟨rfl, hB⟩
end Go.Proofs.Ytgpcdoplahmcoaa
