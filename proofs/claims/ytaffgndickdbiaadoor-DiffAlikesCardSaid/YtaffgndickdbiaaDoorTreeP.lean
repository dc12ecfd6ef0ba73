/-
  A right tree, said of its list: every node is right; their paths are in order; what each is in is ahead of it; files that are one are alike.
-/
import Derived.Test.YtaffgndickdbiaaDoorFindN
import Derived.Test.YtaffgndickdbiaaDoorEnts
namespace Go.Creel
set_option linter.unusedVariables false
set_option linter.unusedSimpArgs false
open Go.RowKit
theorem tree_steps {l : List Nod} (h : treeFault l = 0) : ∀ k, k < l.length → stepF l k = 0 := by
  have hl := (treeFault_all h).1
  have key : ∀ k, k ≤ l.length → ∀ j, j < k → stepF l j = 0 := by
    intro k
    induction k with
    | zero => intro _ j hj; omega
    | succ k ih =>
      intro hk j hj
      by_cases e : j = k
      · subst e
        refine Classical.byContradiction fun hne => ?_
        exact hne ((treeFault_at hl (by omega) (ih (by omega)) rfl hne).symm.trans h)
      · exact ih (by omega) j (by omega)
  exact key _ (Nat.le_refl _)
theorem step_ups {l : List Nod} {i : Nat} (h : stepF l i = 0) : OrdOk l i ∧ UpOk l i := by
  have h0 := (stepF_zero h).1
  have h1 : OrdOk l i := fun hi => Classical.byContradiction fun e => by
    have := stepF_ord h0 hi e
    rw [h] at this; cases this
  refine ⟨h1, fun hu => Classical.byContradiction fun e => ?_⟩
  have := stepF_up h0 h1 hu e
  rw [h] at this; cases this
abbrev PathLt (x y : Nod) : Prop := ordP (pathParts x.path) (pathParts y.path) = -1
abbrev LikeOk (x y : Nod) : Prop := y.same ≠ 0 → x.same = y.same → likeB x y = true
structure TreeP (l : List Nod) : Prop where
  few : l.length ≤ 40
  nod : ∀ x ∈ l, nodFault x = 0
  ord : l.Pairwise PathLt
  ups : ∀ a x b, l = a ++ x :: b → (pathUp x.path).size ≠ 0 → ∃ y ∈ a, y.path = pathUp x.path ∧ y.kind = 2
  like : l.Pairwise LikeOk
theorem nk_mem {l : List Nod} {k : Nat} (h : k < l.length) : nk l k ∈ l := by rw [nk_eq h]; exact List.getElem_mem _
theorem nk_mid (a : List Nod) (x : Nod) (b : List Nod) : nk (a ++ x :: b) a.length = x := by
  rw [nk_eq (by simp)]; simp
theorem pathLt_trans {x y z : Nod} (h1 : PathLt x y) (h2 : PathLt y z) : PathLt x z := ordP_tr h1 h2
theorem pathLt_ne {x y : Nod} (h : PathLt x y) : x.path ≠ y.path := by
  intro e
  unfold PathLt at h
  rw [e, ordP_self] at h
  cases h
theorem TreeP.of {l : List Nod} (h : treeFault l = 0) : TreeP l := by
  have hs := tree_steps h
  obtain ⟨h40, hn⟩ := treeFault_all h
  refine ⟨h40, fun x hx => ?_, ?_, ?_, ?_⟩
  · obtain ⟨i, hi, e⟩ := List.mem_iff_getElem.1 hx
    rw [← e, ← nk_eq hi]; exact hn i hi
  · rw [List.pairwise_iff_getElem]
    have key : ∀ d i, i + d + 1 < l.length → PathLt (nk l i) (nk l (i + d + 1)) := by
      intro d
      induction d with
      | zero => intro i hi; have := (step_ups (hs (i + 1) hi)).1 (by omega); simpa using this
      | succ d ih =>
        intro i hi
        have h1 := ih i (by omega)
        have h2 := (step_ups (hs (i + d + 2) (by omega))).1 (by omega)
        exact pathLt_trans h1 (by simpa [Nat.add_assoc] using h2)
    intro i j hi hj hij
    have := key (j - i - 1) i (by omega)
    rw [show i + (j - i - 1) + 1 = j by omega, nk_eq hi, nk_eq hj] at this
    exact this
  · intro a x b e hu
    have hlen : a.length < l.length := by rw [e]; simp
    have hup := (step_ups (hs a.length hlen)).2
    unfold UpOk at hup
    rw [e, nk_mid, List.take_left] at hup
    obtain ⟨h1, h2⟩ := hup hu
    have hp := treeFind_lt h1
    refine ⟨nk a (treeFind a (pathUp x.path)), nk_mem h1, hp, ?_⟩
    rw [nk_eq h1]
    rw [nk_eq (by simp; omega), List.getElem_append_left h1] at h2
    exact h2
  · rw [List.pairwise_iff_getElem]
    intro i j hi hj hij h1 h2
    have := (stepF_zero (hs j hj)).2
    rw [nk_eq hj] at this
    have := this h1 i hij (by rw [nk_eq hi]; exact h2)
    rw [nk_eq hi] at this
    exact this
theorem TreeP.fault {l : List Nod} (h : TreeP l) : treeFault l = 0 := by
  refine treeFault_ok h.few (fun j hj => stepF_ok ?_ ?_ ?_ ?_)
  · exact h.nod _ (nk_mem hj)
  · intro h0
    have := List.pairwise_iff_getElem.1 h.ord (j - 1) j (by omega) hj (by omega)
    rw [nk_eq hj, nk_eq (by omega)]
    exact this
  · intro hu
    have e : l = l.take j ++ nk l j :: l.drop (j + 1) := by
      rw [nk_eq hj]
      conv => lhs; rw [← List.take_append_drop j l]
      rw [List.drop_eq_getElem_cons hj]
    obtain ⟨y, hy, hp, hk⟩ := h.ups _ _ _ e hu
    have hlen : (l.take j).length = j := by rw [List.length_take]; omega
    obtain ⟨i, hi, ei⟩ := List.mem_iff_getElem.1 hy
    have hij : i < j := by omega
    have hil : i < l.length := by omega
    have eyi : l[i] = y := by rw [← ei, List.getElem_take]
    have hfind : treeFind (l.take j) (pathUp (nk l j).path) = i := by
      refine treeFind_at (by omega) (fun q hq e => ?_) ?_
      · have := List.pairwise_iff_getElem.1 h.ord q i (by omega) hil hq
        refine pathLt_ne this ?_
        rw [eyi, hp, ← e, nk_eq (by omega), List.getElem_take]
      · rw [nk_eq hi, ei]; exact hp
    rw [hfind]
    refine ⟨hij, ?_⟩
    rw [nk_eq hil, eyi]; exact hk
  · refine (Classical.em ((nk l j).same = 0)).imp id (fun hne k hk hs => ?_)
    have := List.pairwise_iff_getElem.1 h.like k j (by omega) hj hk
    rw [nk_eq hj] at hne hs ⊢
    rw [nk_eq (by omega)] at hs ⊢
    exact this hne hs
theorem treeP_iff {l : List Nod} : treeFault l = 0 ↔ TreeP l := ⟨TreeP.of, TreeP.fault⟩
theorem TreeP.filter {l : List Nod} (h : TreeP l) {p : Nod → Bool} (hp : ∀ x y, x ∈ l → y ∈ l → p x = true → y.path = pathUp x.path → (pathUp x.path).size ≠ 0 → p y = true) : TreeP (l.filter p) := by
  refine ⟨Nat.le_trans (List.length_filter_le _ _) h.few, fun x hx => h.nod x (List.mem_filter.1 hx).1, h.ord.filter _, ?_, h.like.filter _⟩
  intro a x b e hu
  obtain ⟨l1, l2, e0, e1, e2⟩ := List.filter_eq_append_iff.1 e
  obtain ⟨m1, m2, e3, e4, e5, e6⟩ := List.filter_eq_cons_iff.1 e2
  obtain ⟨y, hy, hyp, hyk⟩ := h.ups (l1 ++ m1) x m2 (by rw [e0, e3, List.append_assoc]) hu
  have hyl : y ∈ l := by rw [e0, e3]; rcases List.mem_append.1 hy with h1 | h1 <;> simp [h1]
  have hxl : x ∈ l := by rw [e0, e3]; simp
  have hpy := hp x y hxl hyl e5 hyp hu
  refine ⟨y, ?_, hyp, hyk⟩
  rw [← e1]
  rcases List.mem_append.1 hy with h1 | h1
  · exact List.mem_filter.2 ⟨h1, hpy⟩
  · exact absurd hpy (e4 y h1)
theorem TreeP.map_bare {l : List Nod} : TreeP (l.map Nod.bare) ↔ TreeP l := by
  constructor
  · intro h
    refine ⟨by simpa using h.few, fun x hx => h.nod x.bare (List.mem_map.2 ⟨x, hx, rfl⟩), (List.pairwise_map (f := Nod.bare) (R := PathLt)).1 h.ord, ?_, (List.pairwise_map (f := Nod.bare) (R := LikeOk)).1 h.like⟩
    intro a x b e hu
    obtain ⟨y, hy, h1, h2⟩ := h.ups (a.map Nod.bare) x.bare (b.map Nod.bare) (by rw [e]; simp) hu
    obtain ⟨z, hz, rfl⟩ := List.mem_map.1 hy
    exact ⟨z, hz, h1, h2⟩
  · intro h
    refine ⟨by simpa using h.few, fun x hx => ?_, List.pairwise_map.2 h.ord, ?_, List.pairwise_map.2 h.like⟩
    · obtain ⟨y, hy, rfl⟩ := List.mem_map.1 hx
      exact h.nod y hy
    · intro a x b e hu
      obtain ⟨l1, l2, e0, e1, e2⟩ := List.map_eq_append_iff.1 e
      obtain ⟨y, l3, e3, e4, e5⟩ := List.map_eq_cons_iff.1 e2
      subst e4
      obtain ⟨z, hz, h1, h2⟩ := h.ups l1 y l3 (by rw [e0, e3]) hu
      exact ⟨z.bare, by rw [← e1]; exact List.mem_map.2 ⟨z, hz, rfl⟩, h1, h2⟩
theorem treeFault_bare {l m : List Nod} (h : l.map Nod.bare = m.map Nod.bare) (h0 : treeFault l = 0) : treeFault m = 0 :=
  treeP_iff.2 (TreeP.map_bare.1 (by rw [← h]; exact TreeP.map_bare.2 (treeP_iff.1 h0)))
end Go.Creel
