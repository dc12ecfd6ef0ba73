/-
  What a tree that is right has.
-/
import Derived.Test.YtaffgndickdbiaaDoorTreeCheck
namespace Go.Creel
set_option linter.unusedVariables false
open Go.RowKit
theorem treeFault_all {l : List Nod} (h : treeFault l = 0) : l.length ≤ 40 ∧ ∀ k, k < l.length → nodFault (nk l k) = 0 := by
  have hl : l.length ≤ 40 := by
    rcases Nat.lt_or_ge 40 l.length with e | e
    · rw [treeFault_many e] at h; cases h
    · exact e
  refine ⟨hl, ?_⟩
  have key : ∀ k, k ≤ l.length → ∀ j, j < k → stepF l j = 0 := by
    intro k
    induction k with
    | zero => intro _ j hj; omega
    | succ k ih =>
      intro hk j hj
      by_cases e : j = k
      · subst e
        refine Classical.byContradiction fun hne => ?_
        exact hne ((treeFault_at hl (by omega) (ih (by omega)) rfl hne).symm.trans h)
      · exact ih (by omega) j (by omega)
  intro k hk
  exact (stepF_zero (key _ (Nat.le_refl _) k hk)).1
open Classical in
theorem take_nk {l : List Nod} {k : Nat} (h : k < l.length) : l.take (k + 1) = l.take k ++ [nk l k] := by rw [List.take_succ_eq_append_getElem h, nk_eq h]
end Go.Creel
