/-
  Trees told anew: the plain words.
-/
import Derived.Test.YtaffgndickdbiaaDoorNodsOwn
import Derived.Test.YtaffgndickdbiaaDoorSameTree
import Derived.Test.YtaffgndickdbiaaDoorLinkSpec
namespace Go.Creel
set_option linter.unusedVariables false
set_option linter.unusedSimpArgs false
noncomputable def anewOf (l : List Nod) (i : Nat) : Int := if 1 < manyN l l.length (fstIdx l i) then (fstIdx l i : Int) + 1 else 0
noncomputable def anewL (l : List Nod) : List Nod := (List.range l.length).map fun i => { nk l i with same := anewOf l i }
noncomputable def linkAnew (l : List Nod) : List Nod × Int := if ¬ treeFault l = 0 then ([], treeFault l) else (anewL l, 0)
theorem linkAnew_bad {l : List Nod} (h : ¬ treeFault l = 0) : linkAnew l = ([], treeFault l) := by unfold linkAnew; rw [if_pos h]
theorem linkAnew_ok {l : List Nod} (h : treeFault l = 0) : linkAnew l = (anewL l, 0) := by unfold linkAnew; rw [if_neg (by simpa using h)]
/-- k of them told anew -/
def AnewTo (l m : List Nod) (k : Nat) : Prop := m.length = l.length ∧ ∀ i, i < l.length → (nk m i).bare = { (nk l i).bare with same := if i < k then anewOf l i else (nk l i).same }
theorem AnewTo.start {l m : List Nod} (h : m.map Nod.bare = l.map Nod.bare) : AnewTo l m 0 := ⟨bare_len h, fun i hi => by
  rw [if_neg (by omega), bare_nk h (by rw [bare_len h]; exact hi)]
  rfl⟩
theorem nk_set {m : List Nod} {k i : Nat} {y : Nod} (hk : k < m.length) : nk (m.set k y) i = if i = k then y else nk m i := by
  unfold nk
  rw [List.getD_eq_getElem?_getD, List.getD_eq_getElem?_getD, List.getElem?_set]
  by_cases h : k = i
  · rw [if_pos h, if_pos h.symm, if_pos hk]; rfl
  · rw [if_neg h, if_neg (fun e => h e.symm)]
theorem AnewTo.step {l m : List Nod} {k : Nat} (h : AnewTo l m k) (hk : k < l.length) : AnewTo l (m.set k { nk m k with same := anewOf l k }) (k + 1) := by
  refine ⟨by rw [List.length_set]; exact h.1, fun i hi => ?_⟩
  rw [nk_set (by rw [h.1]; exact hk)]
  have h2 := h.2 i hi
  by_cases e : i = k
  · subst e
    rw [if_pos rfl, if_pos (by omega)]
    rw [if_neg (by omega)] at h2
    unfold Nod.bare at h2 ⊢
    simp only [Nod.mk.injEq, and_true, true_and] at h2 ⊢
    exact ⟨h2.1, h2.2.1, h2.2.2.2⟩
  · rw [if_neg e, h2]
    by_cases h3 : i < k
    · rw [if_pos h3, if_pos (by omega)]
    · rw [if_neg h3, if_neg (by omega)]
theorem anewL_len (l : List Nod) : (anewL l).length = l.length := by simp [anewL]
theorem AnewTo.done {l m : List Nod} (h : AnewTo l m l.length) : m.map Nod.bare = (anewL l).map Nod.bare := by
  apply List.ext_getElem
  · rw [List.length_map, List.length_map, anewL_len, h.1]
  · intro i h1 h2
    rw [List.length_map] at h1
    have hi : i < l.length := by rw [← h.1]; exact h1
    have h3 := h.2 i hi
    rw [if_pos hi, nk_eq h1] at h3
    rw [List.getElem_map, List.getElem_map, h3]
    simp only [anewL, List.getElem_map, List.getElem_range]
    rfl
end Go.Creel
