/-
  The verdict on a tree: the plain words.
-/
import Derived.Test.YtaffgndickdbiaaDoorAlike
namespace Go.Creel
set_option linter.unusedVariables false
open Go.RowKit
open Classical in
/-- what is wrong with node i, where nothing is wrong ahead of it -/
noncomputable def stepF (l : List Nod) (i : Nat) : Int :=
  if ¬ nodFault (nk l i) = 0 then nodFault (nk l i)
  else if 0 < i ∧ ¬ ordP (pathParts (nk l (i - 1)).path) (pathParts (nk l i).path) = -1 then 6
  else if (pathUp (nk l i).path).size ≠ 0 ∧ ¬ (treeFind (l.take i) (pathUp (nk l i).path) < i ∧ (nk l (treeFind (l.take i) (pathUp (nk l i).path))).kind = 2) then 10
  else if (nk l i).same ≠ 0 ∧ ∃ k, k < i ∧ (nk l k).same = (nk l i).same ∧ likeB (nk l k) (nk l i) = false then 11
  else 0
open Classical in
noncomputable def treeFault (l : List Nod) : Int :=
  if 40 < l.length then 1 else if h : ∃ k, k < l.length ∧ stepF l k ≠ 0 ∧ ∀ j, j < k → stepF l j = 0 then stepF l (Classical.choose h) else 0
theorem treeFault_many {l : List Nod} (h : 40 < l.length) : treeFault l = 1 := by unfold treeFault; rw [if_pos h]
theorem treeFault_at {l : List Nod} {k : Nat} {e : Int} (hl : l.length ≤ 40) (hk : k < l.length) (hz : ∀ j, j < k → stepF l j = 0) (he : stepF l k = e) (hne : e ≠ 0) : treeFault l = e := by
  have hex : ∃ k, k < l.length ∧ stepF l k ≠ 0 ∧ ∀ j, j < k → stepF l j = 0 := ⟨k, hk, by rw [he]; exact hne, hz⟩
  unfold treeFault
  rw [if_neg (by omega), dif_pos hex]
  obtain ⟨h1, h2, h3⟩ := Classical.choose_spec hex
  have : Classical.choose hex = k := by
    rcases Nat.lt_trichotomy (Classical.choose hex) k with h | h | h
    · exact absurd (hz _ h) h2
    · exact h
    · exact absurd (h3 _ h) (by rw [he]; exact hne)
  rw [this, he]
theorem treeFault_ok {l : List Nod} (hl : l.length ≤ 40) (hz : ∀ j, j < l.length → stepF l j = 0) : treeFault l = 0 := by
  unfold treeFault
  rw [if_neg (by omega), dif_neg (by rintro ⟨k, h1, h2, _⟩; exact h2 (hz k h1))]
theorem stepF_nod {l : List Nod} {i : Nat} (h : ¬ nodFault (nk l i) = 0) : stepF l i = nodFault (nk l i) := by unfold stepF; rw [if_pos h]
theorem stepF_ord {l : List Nod} {i : Nat} (h : nodFault (nk l i) = 0) (h1 : 0 < i) (h2 : ¬ ordP (pathParts (nk l (i - 1)).path) (pathParts (nk l i).path) = -1) : stepF l i = 6 := by
  unfold stepF; rw [if_neg (by simpa using h), if_pos ⟨h1, h2⟩]
def OrdOk (l : List Nod) (i : Nat) : Prop := 0 < i → ordP (pathParts (nk l (i - 1)).path) (pathParts (nk l i).path) = -1
theorem stepF_up {l : List Nod} {i : Nat} (h : nodFault (nk l i) = 0) (h1 : OrdOk l i) (h2 : (pathUp (nk l i).path).size ≠ 0) (h3 : ¬ (treeFind (l.take i) (pathUp (nk l i).path) < i ∧ (nk l (treeFind (l.take i) (pathUp (nk l i).path))).kind = 2)) : stepF l i = 10 := by
  unfold stepF; rw [if_neg (by simpa using h), if_neg (fun e => e.2 (h1 e.1)), if_pos ⟨h2, h3⟩]
def UpOk (l : List Nod) (i : Nat) : Prop := (pathUp (nk l i).path).size ≠ 0 → treeFind (l.take i) (pathUp (nk l i).path) < i ∧ (nk l (treeFind (l.take i) (pathUp (nk l i).path))).kind = 2
theorem stepF_like {l : List Nod} {i k : Nat} (h : nodFault (nk l i) = 0) (h1 : OrdOk l i) (h2 : UpOk l i) (h3 : (nk l i).same ≠ 0) (hk : k < i) (h4 : (nk l k).same = (nk l i).same) (h5 : likeB (nk l k) (nk l i) = false) : stepF l i = 11 := by
  unfold stepF; rw [if_neg (by simpa using h), if_neg (fun e => e.2 (h1 e.1)), if_neg (fun e => e.2 (h2 e.1)), if_pos ⟨h3, k, hk, h4, h5⟩]
theorem stepF_ok {l : List Nod} {i : Nat} (h : nodFault (nk l i) = 0) (h1 : OrdOk l i) (h2 : UpOk l i) (h3 : (nk l i).same = 0 ∨ ∀ k, k < i → (nk l k).same = (nk l i).same → likeB (nk l k) (nk l i) = true) : stepF l i = 0 := by
  unfold stepF; rw [if_neg (by simpa using h), if_neg (fun e => e.2 (h1 e.1)), if_neg (fun e => e.2 (h2 e.1)), if_neg]
  rintro ⟨h4, k, hk, h5, h6⟩
  rcases h3 with h3 | h3
  · exact h4 h3
  · rw [h3 k hk h5] at h6; cases h6
/-- where nothing is wrong with node i -/
theorem stepF_zero {l : List Nod} {i : Nat} (h : stepF l i = 0) : nodFault (nk l i) = 0 ∧ ((nk l i).same ≠ 0 → ∀ k, k < i → (nk l k).same = (nk l i).same → likeB (nk l k) (nk l i) = true) := by
  have h0 : nodFault (nk l i) = 0 := Classical.byContradiction fun e => e ((stepF_nod e).symm.trans h)
  refine ⟨h0, fun hs k hk he => ?_⟩
  cases hl : likeB (nk l k) (nk l i) with
  | true => rfl
  | false =>
    exfalso
    unfold stepF at h
    rw [if_neg (by simpa using h0)] at h
    split at h
    · cases h
    · split at h
      · cases h
      · rw [if_pos ⟨hs, k, hk, he, hl⟩] at h
        cases h
/-- the first node of a file -/
noncomputable def fstAt (l : List Nod) (i : Nat) (s : Int) : Option Nat := (List.range i).find? fun j => decide ((nk l j).same = s)
theorem fstAt_zero (l : List Nod) (s : Int) : fstAt l 0 s = none := rfl
theorem fstAt_succ (l : List Nod) (i : Nat) (s : Int) : fstAt l (i + 1) s = (fstAt l i s).or (if (nk l i).same = s then some i else none) := by
  unfold fstAt
  rw [List.range_succ, List.find?_append]
  by_cases h : (nk l i).same = s
  · simp [h]
  · simp [h]
theorem fstAt_some {l : List Nod} {i j : Nat} {s : Int} (h : fstAt l i s = some j) : j < i ∧ (nk l j).same = s := by
  unfold fstAt at h
  have h1 := List.find?_some h
  have h2 := List.mem_of_find?_eq_some h
  simp at h1 h2
  exact ⟨h2, h1⟩
theorem fstAt_none {l : List Nod} {i : Nat} {s : Int} (h : fstAt l i s = none) : ∀ k, k < i → (nk l k).same ≠ s := by
  unfold fstAt at h
  intro k hk e
  have := List.find?_eq_none.1 h k (List.mem_range.2 hk)
  simp [e] at this
/-- all of a file are alike, if they are like the first one -/
theorem like_all {l : List Nod} {i j : Nat} (hz : ∀ q, q < i → stepF l q = 0) (hs : (nk l i).same ≠ 0) (h : fstAt l i (nk l i).same = some j) (hl : likeB (nk l j) (nk l i) = true) : ∀ k, k < i → (nk l k).same = (nk l i).same → likeB (nk l k) (nk l i) = true := by
  intro k hk he
  obtain ⟨hj, hjs⟩ := fstAt_some h
  rcases Nat.lt_trichotomy k j with hkj | rfl | hkj
  · exfalso
    unfold fstAt at h
    have := (List.find?_range_eq_some.1 h).2.2 k hkj
    simp [he] at this
  · exact hl
  · have := (stepF_zero (hz k hk)).2 (by rw [he]; exact hs) j hkj (by rw [hjs, he])
    obtain ⟨a, b⟩ := likeB_iff.1 this
    obtain ⟨c, d⟩ := likeB_iff.1 hl
    exact likeB_t (a.symm.trans c) (b.symm.trans d)
theorem nodFault_path {x : Nod} (h : nodFault x = 0) : x.path.size ≤ 400 := by
  unfold nodFault nodFaultN at h
  have hp : pathFault x.path = 0 := Classical.byContradiction fun e => by rw [if_pos e] at h; exact e h
  refine Classical.byContradiction fun e => ?_
  have := pathFault_size (s := x.path) (.inr (by omega))
  rw [hp] at this
  cases this
theorem up_size (s : ByteArray) : (pathUp s).size ≤ s.size := by
  rw [← upTo_parts]; exact upTo_size s _
theorem ordP_range (X Y : List ByteArray) : ordP X Y = -1 ∨ ordP X Y = 0 ∨ ordP X Y = 1 := by
  induction X generalizing Y with
  | nil => cases Y <;> simp [ordP]
  | cons x X ih =>
    cases Y with
    | nil => simp [ordP]
    | cons y Y =>
      unfold ordP
      split
      · exact ih Y
      · rcases cmpS_cases x y with ⟨_, h⟩ | ⟨_, _, h⟩ | ⟨_, _, h⟩ <;> simp [h]
end Go.Creel
