/-
  Files that are one: the plain words.
-/
import Derived.Test.YtaffgndickdbiaaDoorTreeCheck
namespace Go.Creel
set_option linter.unusedVariables false
open Go.RowKit
/-- the place of the first node that is the same file -/
noncomputable def fstIdx (l : List Nod) (k : Nat) : Nat := if (nk l k).same = 0 then k else (fstAt l k (nk l k).same).getD k
noncomputable def firstsL (l : List Nod) (k : Nat) : List Int := (List.range k).map fun i => (fstIdx l i : Int)
theorem firstsL_zero (l : List Nod) : firstsL l 0 = [] := rfl
theorem firstsL_succ (l : List Nod) (k : Nat) : firstsL l (k + 1) = firstsL l k ++ [(fstIdx l k : Int)] := by unfold firstsL; rw [List.range_succ, List.map_append]; rfl
theorem firstsL_len (l : List Nod) (k : Nat) : (firstsL l k).length = k := by simp [firstsL]
theorem fstIdx_zero {l : List Nod} {k : Nat} (h : (nk l k).same = 0) : fstIdx l k = k := if_pos h
theorem fstIdx_some {l : List Nod} {k j : Nat} (h : (nk l k).same ≠ 0) (hj : fstAt l k (nk l k).same = some j) : fstIdx l k = j := by unfold fstIdx; rw [if_neg h, hj]; rfl
theorem fstIdx_none {l : List Nod} {k : Nat} (h : (nk l k).same ≠ 0) (hj : fstAt l k (nk l k).same = none) : fstIdx l k = k := by unfold fstIdx; rw [if_neg h, hj]; rfl
theorem fstIdx_le (l : List Nod) (k : Nat) : fstIdx l k ≤ k := by
  by_cases h : (nk l k).same = 0
  · rw [fstIdx_zero h]; exact Nat.le_refl _
  · cases hj : fstAt l k (nk l k).same with
    | none => rw [fstIdx_none h hj]; exact Nat.le_refl _
    | some j => rw [fstIdx_some h hj]; exact Nat.le_of_lt (fstAt_some hj).1
/-- the table of the files met so far -/
def FIdx (l : List Nod) (k : Nat) (m : List (Int × Value)) : Prop := ∀ s, s ≠ 0 → assoc s m = (fstAt l k s).map fun j => .int .i64 j
theorem FIdx.start (l : List Nod) : FIdx l 0 [] := fun s _ => rfl
theorem FIdx.skip {l : List Nod} {k : Nat} {m : List (Int × Value)} (h : FIdx l k m) (h0 : (nk l k).same = 0) : FIdx l (k + 1) m := by
  intro s hs
  rw [h s hs, fstAt_succ, if_neg (fun e => hs (e.symm.trans h0)), Option.or_none]
theorem FIdx.has {l : List Nod} {k j : Nat} {m : List (Int × Value)} (h : FIdx l k m) (hj : fstAt l k (nk l k).same = some j) : FIdx l (k + 1) m := by
  intro s hs
  rw [h s hs, fstAt_succ]
  by_cases e : (nk l k).same = s
  · rw [← e, hj]; rfl
  · rw [if_neg e, Option.or_none]
theorem FIdx.put {l : List Nod} {k : Nat} {m : List (Int × Value)} (h : FIdx l k m) (h0 : (nk l k).same ≠ 0) (hj : fstAt l k (nk l k).same = none) : FIdx l (k + 1) (assocPut (nk l k).same (.int .i64 k) m) := by
  intro s hs
  rw [assoc_put, fstAt_succ]
  by_cases e : s = (nk l k).same
  · rw [if_pos e, e, hj, if_pos rfl]; rfl
  · rw [if_neg e, if_neg (fun h => e h.symm), Option.or_none, h s hs]
/-- two nodes have one first place just if they are one, or one file -/
theorem fstIdx_same {l : List Nod} {k : Nat} (h : (nk l k).same ≠ 0) : (nk l (fstIdx l k)).same = (nk l k).same ∧ ∀ j, j < fstIdx l k → (nk l j).same ≠ (nk l k).same := by
  cases hj : fstAt l k (nk l k).same with
  | none =>
    rw [fstIdx_none h hj]
    exact ⟨rfl, fstAt_none hj⟩
  | some j =>
    rw [fstIdx_some h hj]
    refine ⟨(fstAt_some hj).2, fun q hq e => ?_⟩
    unfold fstAt at hj
    have := (List.find?_range_eq_some.1 hj).2.2 q hq
    simp [e] at this
theorem fstIdx_eq {l : List Nod} {q k : Nat} : fstIdx l q = fstIdx l k ↔ (q = k ∨ ((nk l k).same ≠ 0 ∧ (nk l q).same = (nk l k).same)) := by
  by_cases hk : (nk l k).same = 0
  · rw [fstIdx_zero hk]
    by_cases hq : (nk l q).same = 0
    · rw [fstIdx_zero hq]; simp [hk]
    · constructor
      · intro e
        have := (fstIdx_same hq).1
        rw [e, hk] at this
        exact absurd this.symm hq
      · rintro (e | ⟨e, _⟩)
        · rw [e] at hq; exact absurd hk hq
        · exact absurd hk e
  · by_cases hq : (nk l q).same = 0
    · rw [fstIdx_zero hq]
      constructor
      · intro e
        have := (fstIdx_same hk).1
        rw [← e, hq] at this
        exact absurd this.symm hk
      · rintro (e | ⟨_, e⟩)
        · rw [e] at hq; exact absurd hq hk
        · rw [hq] at e; exact absurd e.symm hk
    · obtain ⟨a, b⟩ := fstIdx_same hk
      obtain ⟨c, d⟩ := fstIdx_same hq
      constructor
      · intro e
        rw [e, a] at c
        exact .inr ⟨hk, c.symm⟩
      · intro e
        have he : (nk l q).same = (nk l k).same := by
          rcases e with e | ⟨_, e⟩
          · rw [e]
          · exact e
        rcases Nat.lt_trichotomy (fstIdx l q) (fstIdx l k) with h | h | h
        · exact absurd (c.trans he) (b _ h)
        · exact h
        · exact absurd (a.trans he.symm) (d _ h)
noncomputable def linkFirsts (l : List Nod) : List Int × Int := if ¬ treeFault l = 0 then ([], treeFault l) else (firstsL l l.length, 0)
/-- how many nodes of the first k have the first place f -/
noncomputable def manyN (l : List Nod) (k f : Nat) : Nat := ((List.range k).filter fun i => decide (fstIdx l i = f)).length
noncomputable def namesN (l : List Nod) (k : Nat) : List Int := (List.range k).map fun i => (manyN l l.length (fstIdx l i) : Int)
noncomputable def linkNames (l : List Nod) : List Int × Int := if ¬ treeFault l = 0 then ([], treeFault l) else (namesN l l.length, 0)
theorem manyN_succ (l : List Nod) (k f : Nat) : manyN l (k + 1) f = manyN l k f + (if fstIdx l k = f then 1 else 0) := by
  unfold manyN
  rw [List.range_succ, List.filter_append, List.length_append]
  by_cases h : fstIdx l k = f <;> simp [h]
end Go.Creel
