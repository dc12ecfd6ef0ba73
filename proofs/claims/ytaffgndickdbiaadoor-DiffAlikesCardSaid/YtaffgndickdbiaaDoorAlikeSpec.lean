/-
  A tree told anew is right: plain laws.
-/
import Derived.Test.YtaffgndickdbiaaDoorDiffSpec
import Derived.Test.YtaffgndickdbiaaDoorAnewSpec
namespace Go.Creel
set_option linter.unusedVariables false
set_option linter.unusedSimpArgs false
open Go.RowKit
theorem nodFault_tell {y : Nod} {s : Int} (h : nodFault y = 0) (h0 : 0 ≤ s) (h1 : y.same = 0 → s = 0) : nodFault { y with same := s } = 0 := by
  unfold nodFault nodFaultN at h ⊢
  simp only
  split at h
  · rename_i e; exact absurd h e
  · rename_i e; rw [if_neg e]
    split at h
    · rename_i e2; exact absurd h e2
    · rename_i e2; rw [if_neg e2]
      split at h
      · rename_i e3; rw [if_pos e3]
        split at h
        · cases h
        · rename_i e4
          rw [if_neg (by intro e5; rcases e5 with e5 | e5; exact e4 (.inl e5); omega)]
          exact h
      · rename_i e3; rw [if_neg e3]
        split at h
        · rename_i e4; rw [if_pos e4]
          split at h
          · cases h
          · rename_i e5
            have hs : y.same = 0 := Classical.byContradiction fun e6 => e5 (.inr (.inl e6))
            rw [if_neg (by rw [h1 hs]; rw [hs] at e5; exact e5)]
            exact h
        · cases h
theorem anewOf_nn (l : List Nod) (i : Nat) : 0 ≤ anewOf l i := by unfold anewOf; split <;> omega
theorem many_one {l : List Nod} {i : Nat} (h : (nk l i).same = 0) : ∀ k, manyN l k (fstIdx l i) = if i < k then 1 else 0
  | 0 => rfl
  | k + 1 => by
    rw [manyN_succ, many_one h k]
    by_cases e : k = i
    · subst e; simp
    · have : ¬ fstIdx l k = fstIdx l i := fun e2 => by
        rcases fstIdx_eq.1 e2 with e3 | ⟨e3, _⟩
        · exact e e3
        · exact e3 h
      rw [if_neg this]
      by_cases e4 : i < k
      · rw [if_pos e4, if_pos (by omega)]
      · rw [if_neg e4, if_neg (by omega)]
theorem anewOf_zero {l : List Nod} {i : Nat} (h : (nk l i).same = 0) : anewOf l i = 0 := by
  unfold anewOf
  rw [many_one h, if_neg]
  split <;> omega
theorem anewOf_eq {l : List Nod} {i j : Nat} (h : anewOf l i ≠ 0) (he : anewOf l j = anewOf l i) : (nk l i).same ≠ 0 ∧ (j = i ∨ (nk l j).same = (nk l i).same) := by
  have h0 : (nk l i).same ≠ 0 := fun e => h (anewOf_zero e)
  refine ⟨h0, ?_⟩
  unfold anewOf at h he
  split at he
  · split at he
    · have e : fstIdx l j = fstIdx l i := by omega
      rcases fstIdx_eq.1 e with e2 | ⟨_, e2⟩
      · exact .inl e2
      · exact .inr e2
    · omega
  · split at he
    · omega
    · rename_i e2; rw [if_neg e2] at h; exact absurd rfl h
theorem nk_anew {l : List Nod} {i : Nat} (h : i < l.length) : nk (anewL l) i = { nk l i with same := anewOf l i } := by
  rw [nk_eq (by rw [anewL_len]; exact h)]
  simp only [anewL, List.getElem_map, List.getElem_range]
theorem find_paths : ∀ {l m : List Nod} (s : ByteArray), l.map Nod.path = m.map Nod.path → treeFind l s = treeFind m s
  | [], [], _, _ => rfl
  | [], _ :: _, _, h => by simp at h
  | _ :: _, [], _, h => by simp at h
  | x :: l, y :: m, s, h => by
    simp only [List.map_cons, List.cons.injEq] at h
    unfold treeFind
    rw [h.1, find_paths s h.2]
theorem anew_paths (l : List Nod) : (anewL l).map Nod.path = l.map Nod.path := by
  apply List.ext_getElem
  · rw [List.length_map, List.length_map, anewL_len]
  · intro i h1 h2
    rw [List.length_map] at h2
    rw [List.getElem_map, List.getElem_map, ← nk_eq (by rw [anewL_len]; exact h2), nk_anew h2, ← nk_eq h2]
theorem likeB_anew {x y : Nod} {s t : Int} : likeB { x with same := s } { y with same := t } = likeB x y := rfl
theorem anew_right {l : List Nod} (h : treeFault l = 0) : treeFault (anewL l) = 0 := by
  have hs := tree_steps h
  have hl := (treeFault_all h).1
  have hlen := anewL_len l
  refine treeFault_ok (by omega) fun i hi => ?_
  have hi' : i < l.length := by omega
  have h0 := hs i hi'
  obtain ⟨ho, hu⟩ := step_ups h0
  have hz := stepF_zero h0
  have hti : ∀ s, treeFind ((anewL l).take i) s = treeFind (l.take i) s := fun s => find_paths s (by rw [List.map_take, List.map_take, anew_paths])
  refine stepF_ok ?_ ?_ ?_ ?_
  · rw [nk_anew hi']; exact nodFault_tell hz.1 (anewOf_nn l i) anewOf_zero
  · intro h1
    rw [nk_anew hi', nk_anew (by omega)]
    exact ho h1
  · unfold UpOk
    rw [nk_anew hi']
    show (pathUp (nk l i).path).size ≠ 0 → treeFind ((anewL l).take i) (pathUp (nk l i).path) < i ∧ (nk (anewL l) (treeFind ((anewL l).take i) (pathUp (nk l i).path))).kind = 2
    intro h1
    obtain ⟨h2, h3⟩ := hu h1
    rw [hti, nk_anew (by omega)]
    exact ⟨h2, h3⟩
  · rw [nk_anew hi']
    by_cases hn : anewOf l i = 0
    · exact .inl hn
    · refine .inr fun k hk he => ?_
      rw [nk_anew (by omega)] at he ⊢
      obtain ⟨hne, h4⟩ := anewOf_eq hn he
      rcases h4 with h4 | h4
      · omega
      · exact hz.2 hne k hk h4
open Classical in
noncomputable def alikeB (a b : List Nod) : Bool := if (anewL a).map Nod.bare = (anewL b).map Nod.bare then true else false
theorem alikeB_t {a b : List Nod} (h : (anewL a).map Nod.bare = (anewL b).map Nod.bare) : alikeB a b = true := by unfold alikeB; rw [if_pos h]
theorem alikeB_f {a b : List Nod} (h : ¬ (anewL a).map Nod.bare = (anewL b).map Nod.bare) : alikeB a b = false := by unfold alikeB; rw [if_neg h]
noncomputable def alikeOf (a b : List Nod) : Bool × Int := if ¬ treeFault a = 0 then (false, treeFault a) else if ¬ treeFault b = 0 then (false, treeFault b) else (alikeB a b, 0)
theorem alikeOf_a {a b : List Nod} (h : ¬ treeFault a = 0) : alikeOf a b = (false, treeFault a) := by unfold alikeOf; rw [if_pos h]
theorem alikeOf_b {a b : List Nod} (h : treeFault a = 0) (h2 : ¬ treeFault b = 0) : alikeOf a b = (false, treeFault b) := by unfold alikeOf; rw [if_neg (by simpa using h), if_pos h2]
theorem alikeOf_ok {a b : List Nod} (h : treeFault a = 0) (h2 : treeFault b = 0) : alikeOf a b = (alikeB a b, 0) := by unfold alikeOf; rw [if_neg (by simpa using h), if_neg (by simpa using h2)]
theorem diffL_zero (a b : List Nod) : (diffL a b).length = 0 ↔ a.map Nod.bare = b.map Nod.bare := by rw [List.length_eq_zero_iff, diffL_none]
theorem bare_ext {l m : List Nod} (hl : l.length = m.length) (h : ∀ k, k < l.length → (nk l k).bare = (nk m k).bare) : l.map Nod.bare = m.map Nod.bare := by
  apply List.ext_getElem
  · rw [List.length_map, List.length_map, hl]
  · intro i h1 h2
    rw [List.length_map] at h1 h2
    rw [List.getElem_map, List.getElem_map, ← nk_eq h1, ← nk_eq h2]
    exact h i h1
end Go.Creel
