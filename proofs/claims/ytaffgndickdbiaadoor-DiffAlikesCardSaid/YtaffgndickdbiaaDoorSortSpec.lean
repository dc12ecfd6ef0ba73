/-
  Nodes sorted by their paths, one by one: plain words and laws.
-/
import Derived.Test.YtaffgndickdbiaaDoorPutSpec
namespace Go.Creel
set_option linter.unusedVariables false
set_option linter.unusedSimpArgs false
open Go.RowKit
theorem pathParts_inj {a b : ByteArray} (h : pathParts a = pathParts b) : a = b := by
  have key : ∀ s : ByteArray, s.data.toList = joinL ((pathParts s).map fun p => p.data.toList) := by
    intro s
    unfold pathParts
    by_cases h0 : s.size = 0
    · rw [if_pos h0]
      have : s.data.toList = [] := List.eq_nil_of_length_eq_zero (by rw [← Lib.size_eq]; exact h0)
      rw [this]; rfl
    · rw [if_neg h0, partsS, List.map_map]
      have : (fun p : ByteArray => p.data.toList) ∘ ofL = id := by funext x; simp [ofL_data]
      rw [this, List.map_id, joinL_parts]
  exact ext_bytes (by rw [key a, key b, h])
/-- what a node's path is to another node's -/
def ordN (x y : Nod) : Int := ordP (pathParts x.path) (pathParts y.path)
theorem ordN_range (x y : Nod) : ordN x y = -1 ∨ ordN x y = 0 ∨ ordN x y = 1 := ordP_range _ _
theorem ordN_anti (x y : Nod) : ordN y x = - ordN x y := ordP_anti _ _
theorem ordN_path {x y : Nod} (h : ordN x y = 0) : x.path = y.path := pathParts_inj (ordP_zero h)
theorem ordN_self {x y : Nod} (h : x.path = y.path) : ordN x y = 0 := by unfold ordN; rw [h, ordP_self]
theorem ordN_lt {x y : Nod} : ordN x y = -1 ↔ PathLt x y := Iff.rfl
theorem ordN_le_trans {x y z : Nod} (h1 : ordN x y ≤ 0) (h2 : ordN y z ≤ 0) : ordN x z ≤ 0 := by
  rcases ordN_range x y with a | a | a
  · rcases ordN_range y z with b | b | b
    · have : ordN x z = -1 := ordP_tr a b
      omega
    · unfold ordN at a ⊢; rw [← ordN_path b]; omega
    · omega
  · unfold ordN at h2 ⊢; rw [ordN_path a]; exact h2
  · omega
abbrev PathLe (x y : Nod) : Prop := ordN x y ≤ 0
def leN (n x : Nod) : Bool := decide (ordN x n ≤ 0)
def insN (out : List Nod) (n : Nod) : List Nod := out.takeWhile (leN n) ++ n :: out.dropWhile (leN n)
def isort (l : List Nod) : List Nod := l.foldl insN []
theorem insN_perm (out : List Nod) (n : Nod) : (insN out n).Perm (n :: out) := by
  unfold insN
  refine List.perm_middle.trans ?_
  rw [List.takeWhile_append_dropWhile]
theorem insN_len (out : List Nod) (n : Nod) : (insN out n).length = out.length + 1 := by rw [(insN_perm out n).length_eq]; rfl
theorem insN_mem {out : List Nod} {n x : Nod} : x ∈ insN out n ↔ x = n ∨ x ∈ out := by rw [(insN_perm out n).mem_iff, List.mem_cons]
theorem foldl_mem {x : Nod} : ∀ {l acc : List Nod}, x ∈ l.foldl insN acc ↔ x ∈ acc ∨ x ∈ l
  | [], acc => by simp
  | n :: l, acc => by
    rw [List.foldl_cons, foldl_mem, insN_mem, List.mem_cons]
    constructor
    · rintro ((h | h) | h)
      · exact .inr (.inl h)
      · exact .inl h
      · exact .inr (.inr h)
    · rintro (h | h | h)
      · exact .inl (.inr h)
      · exact .inl (.inl h)
      · exact .inr h
theorem isort_mem {x : Nod} {l : List Nod} : x ∈ isort l ↔ x ∈ l := by unfold isort; rw [foldl_mem]; simp
theorem foldl_len : ∀ (l acc : List Nod), (l.foldl insN acc).length = acc.length + l.length
  | [], acc => by simp
  | n :: l, acc => by rw [List.foldl_cons, foldl_len, insN_len, List.length_cons]; omega
theorem isort_len (l : List Nod) : (isort l).length = l.length := by unfold isort; rw [foldl_len]; simp
theorem isort_take {l : List Nod} {k : Nat} (hk : k < l.length) : isort (l.take (k + 1)) = insN (isort (l.take k)) (nk l k) := by
  unfold isort
  rw [take_nk hk, List.foldl_append]; rfl
/-- in an ordered list: behind one that is greater, all are -/
theorem insN_sorted {out : List Nod} {n : Nod} (h : out.Pairwise PathLe) : (insN out n).Pairwise PathLe := by
  unfold insN
  have hs : (out.takeWhile (leN n) ++ out.dropWhile (leN n)).Pairwise PathLe := by rw [List.takeWhile_append_dropWhile]; exact h
  rw [List.pairwise_append] at hs ⊢
  obtain ⟨h1, h2, h3⟩ := hs
  have hle : ∀ x ∈ out.takeWhile (leN n), ordN x n ≤ 0 := fun x hx => by
    have e := List.all_eq_true.1 (List.all_takeWhile (p := leN n) (l := out)) x hx
    exact of_decide_eq_true e
  have hgt : ∀ x ∈ out.dropWhile (leN n), ordN n x ≤ 0 := by
    cases hd : out.dropWhile (leN n) with
    | nil => intro x hx; cases hx
    | cons y r =>
      have hy : leN n y = false := by
        have hne : out.dropWhile (leN n) ≠ [] := by rw [hd]; exact List.cons_ne_nil _ _
        have e := List.head_dropWhile_not (leN n) hne
        simpa [hd] using e
      have hyn : ¬ ordN y n ≤ 0 := of_decide_eq_false hy
      have hny : ordN n y ≤ 0 := by have := ordN_anti y n; omega
      intro x hx
      rcases List.mem_cons.1 hx with rfl | hx
      · exact hny
      · rw [hd] at h2
        exact ordN_le_trans hny ((List.pairwise_cons.1 h2).1 x hx)
  refine ⟨h1, List.pairwise_cons.2 ⟨hgt, h2⟩, fun a ha b hb => ?_⟩
  rcases List.mem_cons.1 hb with rfl | hb
  · exact hle a ha
  · exact h3 a ha b hb
theorem foldl_sorted : ∀ {l acc : List Nod}, acc.Pairwise PathLe → (l.foldl insN acc).Pairwise PathLe
  | [], _, h => h
  | n :: l, acc, h => by rw [List.foldl_cons]; exact foldl_sorted (insN_sorted h)
theorem isort_sorted (l : List Nod) : (isort l).Pairwise PathLe := foldl_sorted List.Pairwise.nil
theorem foldl_perm : ∀ (l acc : List Nod), (l.foldl insN acc).Perm (acc ++ l)
  | [], acc => by simp
  | n :: l, acc => by
    rw [List.foldl_cons]
    refine (foldl_perm l _).trans ?_
    refine ((insN_perm acc n).append_right l).trans ?_
    simpa using (List.perm_middle (a := n) (l₁ := acc) (l₂ := l)).symm
theorem isort_perm (l : List Nod) : (isort l).Perm l := by
  have h := foldl_perm l []
  rw [List.nil_append] at h
  exact h
/-- the place behind all that are no greater, told from behind -/
theorem ins_at {out : List Nod} {n : Nod} {k : Nat} (ho : out.Pairwise PathLe) (hk : k ≤ out.length) (h1 : ∀ j, k ≤ j → j < out.length → 0 < ordN (nk out j) n) (h2 : 0 < k → ordN (nk out (k - 1)) n ≤ 0) : insN out n = out.take k ++ n :: out.drop k := by
  have hall : ∀ x ∈ out.take k, leN n x = true := by
    intro x hx
    obtain ⟨j, hj, e⟩ := List.mem_take_iff_getElem.1 hx
    have hjk : j < k := by omega
    have h3 := h2 (by omega)
    refine decide_eq_true ?_
    rw [← e]
    by_cases hjl : j = k - 1
    · subst hjl; rw [← nk_eq (by omega)]; exact h3
    · refine ordN_le_trans ?_ h3
      rw [nk_eq (by omega)]
      exact List.pairwise_iff_getElem.1 ho j (k - 1) (by omega) (by omega) (by omega)
  have htw : out.takeWhile (leN n) = out.take k := by
    conv => lhs; rw [← List.take_append_drop k out]
    rw [List.takeWhile_append_of_pos hall]
    have : (out.drop k).takeWhile (leN n) = [] := by
      cases hd : out.drop k with
      | nil => rfl
      | cons y r =>
        have hlt : k < out.length := by
          rcases Nat.lt_or_ge k out.length with h | h
          · exact h
          · rw [List.drop_eq_nil_of_le h] at hd; cases hd
        rw [List.drop_eq_getElem_cons hlt] at hd
        have hy := h1 k (Nat.le_refl _) hlt
        rw [nk_eq hlt] at hy
        have e : y = out[k] := by cases hd; rfl
        rw [List.takeWhile_cons, e]
        have : leN n out[k] = false := decide_eq_false (by omega)
        rw [this]; rfl
    rw [this, List.append_nil]
  have hdw : out.dropWhile (leN n) = out.drop k := by
    have e := List.takeWhile_append_dropWhile (p := leN n) (l := out)
    rw [htw] at e
    exact List.append_cancel_left (e.trans (List.take_append_drop k out).symm)
  unfold insN
  rw [htw, hdw]
/-- what is in order, and no path twice, is told by its members -/
theorem sorted_ext : ∀ {l m : List Nod}, l.Pairwise PathLt → m.Pairwise PathLt → (∀ x, x ∈ l ↔ x ∈ m) → l = m
  | [], [], _, _, _ => rfl
  | [], y :: m, _, _, h => absurd ((h y).2 (by simp)) (by simp)
  | x :: l, [], _, _, h => absurd ((h x).1 (by simp)) (by simp)
  | x :: l, y :: m, hl, hm, h => by
    have hl' := List.pairwise_cons.1 hl
    have hm' := List.pairwise_cons.1 hm
    have hirr : ∀ z : Nod, ¬ PathLt z z := fun z hz => pathLt_ne hz rfl
    have hxy : x = y := by
      rcases List.mem_cons.1 ((h x).1 (by simp)) with e | e
      · exact e
      · rcases List.mem_cons.1 ((h y).2 (by simp)) with e2 | e2
        · exact e2.symm
        · exact absurd (pathLt_trans (hm'.1 x e) (hl'.1 y e2)) (hirr y)
    subst hxy
    rw [sorted_ext hl'.2 hm'.2 (fun z => ?_)]
    constructor
    · intro hz
      rcases List.mem_cons.1 ((h z).1 (by simp [hz])) with e | e
      · subst e; exact absurd (hl'.1 z hz) (hirr z)
      · exact e
    · intro hz
      rcases List.mem_cons.1 ((h z).2 (by simp [hz])) with e | e
      · subst e; exact absurd (hm'.1 z hz) (hirr z)
      · exact e
theorem sorted_strict {l : List Nod} (h : l.Pairwise PathLe) (hn : l.Pairwise fun x y => x.path ≠ y.path) : l.Pairwise PathLt := by
  refine (h.and hn).imp fun {a b} hab => ?_
  rcases ordN_range a b with e | e | e
  · exact e
  · exact absurd (ordN_path e) hab.2
  · have := hab.1; unfold PathLe at this; omega
end Go.Creel
