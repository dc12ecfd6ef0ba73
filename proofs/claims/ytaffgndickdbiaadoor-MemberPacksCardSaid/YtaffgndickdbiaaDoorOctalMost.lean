/-
  octal.Most and its reference; power.
-/
import Derived.Test.YtaffgndickdbiaaDoorData
namespace Go.Creel
/-- the greatest number of a field, and what is wrong with the width -/
def octMost (width : Int) : Int × Int := if 2 ≤ width ∧ width ≤ 12 then (8 ^ (width - 1).toNat - 1, 0) else (0, 4)
theorem octMost_in {W : Nat} (h1 : 2 ≤ W) (h2 : W ≤ 12) : octMost (W : Int) = (((8 ^ (W - 1) : Nat) : Int) - 1, 0) := by
  have : ((W : Int) - 1).toNat = W - 1 := by omega
  simp only [octMost, this]; rw [if_pos (by omega)]; simp
theorem eleven {n : Int} (h1 : 2 ≤ n) (h2 : n ≤ 12) : n = 2 ∨ n = 3 ∨ n = 4 ∨ n = 5 ∨ n = 6 ∨ n = 7 ∨ n = 8 ∨ n = 9 ∨ n = 10 ∨ n = 11 ∨ n = 12 := by omega
end Go.Creel
namespace Go.Proofs.YtaffgndickdbiaaDoor
set_option linter.unusedVariables false
open Go.Creel Go.RowKit
set_option maxRecDepth 100000 in
set_option maxHeartbeats 2000000 in
theorem Most_any (n : Int) (w : World) :
    Calls Tryd.prog 98 #[.int .i64 n] w fun e w' => e = .returned (.tuple #[.int .i64 (octMost n).1, .int .i64 (octMost n).2]) ∧ w = w' := by
  by_cases h : 2 ≤ n ∧ n ≤ 12
  · obtain ⟨h1, h2⟩ := h
    rcases eleven h1 h2 with rfl | rfl | rfl | rfl | rfl | rfl | rfl | rfl | rfl | rfl | rfl
    all_goals
      clear h1 h2
      go_enter Tryd.func98, Tryd.ntmps98
      go_wp2
      go_ret2
      exact ⟨rfl, rfl⟩
  · have HF := Lib.hid (show octMost n = (0, 4) by simp only [octMost]; rw [if_neg h])
    by_cases h1 : n < 2
    · have hd : decide (n < 2) = true := by simpa using h1
      go_enter Tryd.func98, Tryd.ntmps98
      go_wp2
      go_ret2
      exact ⟨ret_ii HF.out, rfl⟩
    · have h2 : 12 < n := by omega
      go_enter Tryd.func98, Tryd.ntmps98
      go_wp2
      go_ret2
      exact ⟨ret_ii HF.out, rfl⟩
end Go.Proofs.YtaffgndickdbiaaDoor
