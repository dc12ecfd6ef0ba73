/-
  Texts: SymSpec, LinkSpec, AnewSpec, ApplySpec, TurnSpec, MergeSpec.
-/
import Derived.Test.YtaffgndickdbiaaDoorT09
set_option linter.unusedVariables false
set_option linter.unusedSimpArgs false
set_option linter.unusedSectionVars false
namespace Go.Creel
open Go.RowKit
def ofPath (s : ByteArray) (l : List Nod) : List Nod := l.filter fun x => decide (x.path = s)
theorem ofPath_app (s : ByteArray) (l m : List Nod) : ofPath s (l ++ m) = ofPath s l ++ ofPath s m := List.filter_append ..
theorem ofPath_nil {s : ByteArray} {l : List Nod} (h : ∀ x ∈ l, x.path ≠ s) : ofPath s l = [] := List.filter_eq_nil_iff.2 fun x hx e => h x hx (of_decide_eq_true e)
theorem ofPath_yes {s : ByteArray} {x : Nod} {l : List Nod} (h : x.path = s) : ofPath s (x :: l) = x :: ofPath s l := List.filter_cons_of_pos (by simpa using h)
theorem ofPath_no {s : ByteArray} {x : Nod} {l : List Nod} (h : x.path ≠ s) : ofPath s (x :: l) = ofPath s l := List.filter_cons_of_neg (by simpa using h)
theorem mem_ofPath {s : ByteArray} {x : Nod} {l : List Nod} : x ∈ ofPath s l ↔ x ∈ l ∧ x.path = s := by unfold ofPath; rw [List.mem_filter]; simp
def Stable (l m : List Nod) : Prop := m.Pairwise PathLe ∧ ∀ s, ofPath s m = ofPath s l
theorem stable_one : ∀ {m n : List Nod}, m.Pairwise PathLe → n.Pairwise PathLe → (∀ s, ofPath s m = ofPath s n) → m = n
  | [], [], _, _, _ => rfl
  | [], y :: n, _, _, h => by
    have h1 := h y.path
    rw [ofPath_yes rfl] at h1
    cases h1
  | x :: m, [], _, _, h => by
    have h1 := h x.path
    rw [ofPath_yes rfl] at h1
    cases h1
  | x :: m, y :: n, hm, hn, h => by
    have hm' := List.pairwise_cons.1 hm
    have hn' := List.pairwise_cons.1 hn
    have hp : y.path = x.path := by
      refine Classical.byContradiction fun hne => ?_
      have hx : x ∈ n := by
        have h1 := h x.path
        rw [ofPath_yes rfl, ofPath_no hne] at h1
        have : x ∈ ofPath x.path n := by rw [← h1]; exact List.mem_cons_self
        exact (mem_ofPath.1 this).1
      have hy : y ∈ m := by
        have h1 := h y.path
        rw [ofPath_yes rfl, ofPath_no (fun e => hne e.symm)] at h1
        have : y ∈ ofPath y.path m := by rw [h1]; exact List.mem_cons_self
        exact (mem_ofPath.1 this).1
      have a := hm'.1 y hy
      have b := hn'.1 x hx
      have c := ordN_anti x y
      unfold PathLe at a b
      exact hne (ordN_path (x := x) (y := y) (by omega)).symm
    have hxy : x = y := by
      have h1 := h x.path
      rw [ofPath_yes rfl, ofPath_yes hp] at h1
      exact (List.cons.inj h1).1
    subst hxy
    rw [stable_one hm'.2 hn'.2 fun s => ?_]
    have h1 := h s
    by_cases e : x.path = s
    · rw [ofPath_yes e, ofPath_yes e] at h1
      exact (List.cons.inj h1).2
    · rw [ofPath_no e, ofPath_no e] at h1
      exact h1
theorem insN_path {out : List Nod} {n : Nod} (h : out.Pairwise PathLe) (s : ByteArray) : ofPath s (insN out n) = ofPath s out ++ ofPath s [n] := by
  have hs : (out.takeWhile (leN n) ++ out.dropWhile (leN n)).Pairwise PathLe := by rw [List.takeWhile_append_dropWhile]; exact h
  have hgt : ∀ x ∈ out.dropWhile (leN n), x.path ≠ n.path := by
    cases hd : out.dropWhile (leN n) with
    | nil => intro x hx; cases hx
    | cons y r =>
      have hy : leN n y = false := by
        have hne : out.dropWhile (leN n) ≠ [] := by rw [hd]; exact List.cons_ne_nil _ _
        have e := List.head_dropWhile_not (leN n) hne
        simpa [hd] using e
      have hyn : ¬ ordN y n ≤ 0 := of_decide_eq_false hy
      intro x hx e
      have e0 : ordN x n = 0 := ordN_self e
      rcases List.mem_cons.1 hx with rfl | hx
      · omega
      · rw [hd] at hs
        have h2 := (List.pairwise_cons.1 (List.pairwise_append.1 hs).2.1).1 x hx
        exact hyn (ordN_le_trans h2 (by omega))
  have e1 : ofPath s out = ofPath s (out.takeWhile (leN n)) ++ ofPath s (out.dropWhile (leN n)) := by rw [← ofPath_app, List.takeWhile_append_dropWhile]
  unfold insN
  rw [e1, ofPath_app]
  by_cases hn : n.path = s
  · have e2 : ofPath s (out.dropWhile (leN n)) = [] := ofPath_nil fun x hx => by rw [← hn]; exact hgt x hx
    rw [ofPath_yes hn, ofPath_yes hn, e2]
    simp [ofPath]
  · rw [ofPath_no hn, ofPath_no hn]
    simp [ofPath]
theorem foldl_path (s : ByteArray) : ∀ (l : List Nod) {acc : List Nod}, acc.Pairwise PathLe → ofPath s (l.foldl insN acc) = ofPath s acc ++ ofPath s l
  | [], acc, _ => by simp [ofPath]
  | n :: l, acc, h => by
    rw [List.foldl_cons, foldl_path s l (insN_sorted h), insN_path h, List.append_assoc, ← ofPath_app]
    rfl
theorem isort_stable (l : List Nod) : Stable l (isort l) := ⟨isort_sorted l, fun s => by unfold isort; rw [foldl_path s l List.Pairwise.nil]; rfl⟩
theorem isort_one {l m : List Nod} (h : Stable l m) : m = isort l := stable_one h.1 (isort_sorted l) fun s => (h.2 s).trans ((isort_stable l).2 s).symm
theorem isort_id {l : List Nod} (h : l.Pairwise PathLe) : isort l = l := (isort_one ⟨h, fun _ => rfl⟩).symm
theorem isort_parts (l m : List Nod) : isort (isort l ++ isort m) = isort (l ++ m) := by
  refine isort_one ⟨isort_sorted _, fun s => ?_⟩
  rw [(isort_stable _).2 s, ofPath_app, ofPath_app, (isort_stable l).2 s, (isort_stable m).2 s]
theorem isort_turned {l1 l2 r1 r2 : List Nod} (hl : (l1 ++ l2).Pairwise PathLe) (hr : (r1 ++ r2).Pairwise PathLe) (h1 : ∀ x ∈ l1, ∀ y ∈ r2, PathLe x y) (h2 : ∀ x ∈ r1, ∀ y ∈ l2, ordN x y < 0) :
    isort (l1 ++ r1) ++ isort (l2 ++ r2) = isort ((l1 ++ l2) ++ (r1 ++ r2)) := by
  refine isort_one ⟨?_, fun s => ?_⟩
  · rw [List.pairwise_append]
    refine ⟨isort_sorted _, isort_sorted _, fun x hx y hy => ?_⟩
    rw [isort_mem, List.mem_append] at hx hy
    rcases hx with hx | hx
    · rcases hy with hy | hy
      · exact (List.pairwise_append.1 hl).2.2 x hx y hy
      · exact h1 x hx y hy
    · rcases hy with hy | hy
      · have := h2 x hx y hy; unfold PathLe; omega
      · exact (List.pairwise_append.1 hr).2.2 x hx y hy
  · simp only [ofPath_app, (isort_stable _).2]
    have key : ofPath s r1 ++ ofPath s l2 = ofPath s l2 ++ ofPath s r1 := by
      by_cases h : ∃ x ∈ r1, x.path = s
      · obtain ⟨x, hx, hxs⟩ := h
        have : ofPath s l2 = [] := ofPath_nil fun y hy e => by
          have h3 := h2 x hx y hy
          rw [ordN_self (hxs.trans e.symm)] at h3
          omega
        rw [this]; simp
      · have : ofPath s r1 = [] := ofPath_nil fun x hx e => h ⟨x, hx, e⟩
        rw [this]; simp
    calc ofPath s l1 ++ ofPath s r1 ++ (ofPath s l2 ++ ofPath s r2) = ofPath s l1 ++ (ofPath s r1 ++ ofPath s l2) ++ ofPath s r2 := by simp
      _ = ofPath s l1 ++ (ofPath s l2 ++ ofPath s r1) ++ ofPath s r2 := by rw [key]
      _ = ofPath s l1 ++ ofPath s l2 ++ (ofPath s r1 ++ ofPath s r2) := by simp
theorem isort_first {x : Nod} {r1 r2 : List Nod} (hr : (r1 ++ r2).Pairwise PathLe) (h1 : ∀ y ∈ r1, ordN y x < 0) (h2 : ∀ y ∈ r2, PathLe x y) : r1 ++ x :: r2 = isort (x :: (r1 ++ r2)) := by
  have h := isort_turned (l1 := []) (l2 := [x]) (r1 := r1) (r2 := r2) (by simp) hr (by simp) (by simpa using h1)
  have hr' := List.pairwise_append.1 hr
  rw [List.nil_append, List.nil_append, isort_id hr'.1, isort_id (l := [x] ++ r2) (List.pairwise_cons.2 ⟨h2, hr'.2.1⟩)] at h
  exact h
theorem isort_last {y : Nod} {l1 l2 : List Nod} (hl : (l1 ++ l2).Pairwise PathLe) (h1 : ∀ x ∈ l1, PathLe x y) (h2 : ∀ x ∈ l2, ordN y x < 0) : l1 ++ y :: l2 = isort ((l1 ++ l2) ++ [y]) := by
  have h := isort_turned (l1 := l1) (l2 := l2) (r1 := [y]) (r2 := []) hl (by simp) (by simp) (by simpa using h2)
  have hl' := List.pairwise_append.1 hl
  rw [List.append_nil, List.append_nil, isort_id hl'.2.1, isort_id (l := l1 ++ [y]) (List.pairwise_append.2 ⟨hl'.1, by simp, by simpa using h1⟩)] at h
  rw [← h]; simp
open Go.RowKit
noncomputable def fstIdx (l : List Nod) (k : Nat) : Nat := if (nk l k).same = 0 then k else (fstAt l k (nk l k).same).getD k
def FIdx (l : List Nod) (k : Nat) (m : List (Int × Value)) : Prop := ∀ s, s ≠ 0 → assoc s m = (fstAt l k s).map fun j => .int .i64 j
theorem FIdx.start (l : List Nod) : FIdx l 0 [] := fun s _ => rfl
theorem FIdx.skip {l : List Nod} {k : Nat} {m : List (Int × Value)} (h : FIdx l k m) (h0 : (nk l k).same = 0) : FIdx l (k + 1) m := by
  intro s hs
  rw [h s hs, fstAt_succ, if_neg (fun e => hs (e.symm.trans h0)), Option.or_none]
theorem FIdx.has {l : List Nod} {k j : Nat} {m : List (Int × Value)} (h : FIdx l k m) (hj : fstAt l k (nk l k).same = some j) : FIdx l (k + 1) m := by
  intro s hs
  rw [h s hs, fstAt_succ]
  by_cases e : (nk l k).same = s
  · rw [← e, hj]; rfl
  · rw [if_neg e, Option.or_none]
theorem FIdx.put {l : List Nod} {k : Nat} {m : List (Int × Value)} (h : FIdx l k m) (h0 : (nk l k).same ≠ 0) (hj : fstAt l k (nk l k).same = none) : FIdx l (k + 1) (assocPut (nk l k).same (.int .i64 k) m) := by
  intro s hs
  rw [assoc_put, fstAt_succ]
  by_cases e : s = (nk l k).same
  · rw [if_pos e, e, hj, if_pos rfl]; rfl
  · rw [if_neg e, if_neg (fun h => e h.symm), Option.or_none, h s hs]
noncomputable def manyN (l : List Nod) (k f : Nat) : Nat := ((List.range k).filter fun i => decide (fstIdx l i = f)).length
noncomputable def anewOf (l : List Nod) (i : Nat) : Int := if 1 < manyN l l.length (fstIdx l i) then (fstIdx l i : Int) + 1 else 0
noncomputable def anewL (l : List Nod) : List Nod := (List.range l.length).map fun i => { nk l i with same := anewOf l i }
def AnewTo (l m : List Nod) (k : Nat) : Prop := m.length = l.length ∧ ∀ i, i < l.length → (nk m i).bare = { (nk l i).bare with same := if i < k then anewOf l i else (nk l i).same }
theorem AnewTo.start {l m : List Nod} (h : m.map Nod.bare = l.map Nod.bare) : AnewTo l m 0 := ⟨bare_len h, fun i hi => by
  rw [if_neg (by omega), bare_nk h (by rw [bare_len h]; exact hi)]
  rfl⟩
theorem nk_set {m : List Nod} {k i : Nat} {y : Nod} (hk : k < m.length) : nk (m.set k y) i = if i = k then y else nk m i := by
  unfold nk
  rw [List.getD_eq_getElem?_getD, List.getD_eq_getElem?_getD, List.getElem?_set]
  by_cases h : k = i
  · rw [if_pos h, if_pos h.symm, if_pos hk]; rfl
  · rw [if_neg h, if_neg (fun e => h e.symm)]
theorem AnewTo.step {l m : List Nod} {k : Nat} (h : AnewTo l m k) (hk : k < l.length) : AnewTo l (m.set k { nk m k with same := anewOf l k }) (k + 1) := by
  refine ⟨by rw [List.length_set]; exact h.1, fun i hi => ?_⟩
  rw [nk_set (by rw [h.1]; exact hk)]
  have h2 := h.2 i hi
  by_cases e : i = k
  · subst e
    rw [if_pos rfl, if_pos (by omega)]
    rw [if_neg (by omega)] at h2
    unfold Nod.bare at h2 ⊢
    simp only [Nod.mk.injEq, and_true, true_and] at h2 ⊢
    exact ⟨h2.1, h2.2.1, h2.2.2.2⟩
  · rw [if_neg e, h2]
    by_cases h3 : i < k
    · rw [if_pos h3, if_pos (by omega)]
    · rw [if_neg h3, if_neg (by omega)]
theorem anewL_len (l : List Nod) : (anewL l).length = l.length := by simp [anewL]
theorem AnewTo.done {l m : List Nod} (h : AnewTo l m l.length) : m.map Nod.bare = (anewL l).map Nod.bare := by
  apply List.ext_getElem
  · rw [List.length_map, List.length_map, anewL_len, h.1]
  · intro i h1 h2
    rw [List.length_map] at h1
    have hi : i < l.length := by rw [← h.1]; exact h1
    have h3 := h.2 i hi
    rw [if_pos hi, nk_eq h1] at h3
    rw [List.getElem_map, List.getElem_map, h3]
    simp only [anewL, List.getElem_map, List.getElem_range]
    rfl
open Go.RowKit
def applyE (o : List Nod) (c : Chg) : Int := if c.kind < 1 ∨ 3 < c.kind then 2 else if ¬ c.kind = 2 ∧ ¬ treeFind o c.node.path < o.length then 5 else if c.kind = 2 ∧ treeFind o c.node.path < o.length then 6 else 0
def applyS (o : List Nod) (c : Chg) : List Nod := if c.kind = 1 then o.eraseIdx (treeFind o c.node.path) else if c.kind = 2 then isort (o ++ [c.node]) else o.set (treeFind o c.node.path) c.node
noncomputable def applyL : List Nod → List Chg → List Nod × Int
  | o, [] => if treeFault o = 0 then (o, 0) else ([], treeFault o)
  | o, c :: r => if applyE o c = 0 then applyL (applyS o c) r else ([], applyE o c)
noncomputable def diffApply (t : List Nod) (l : List Chg) : List Nod × Int := if treeFault t = 0 then applyL t l else ([], treeFault t)
theorem diffApply_bad {t : List Nod} {l : List Chg} (h : ¬ treeFault t = 0) : diffApply t l = ([], treeFault t) := by unfold diffApply; rw [if_neg h]
theorem diffApply_ok {t : List Nod} {l : List Chg} (h : treeFault t = 0) : diffApply t l = applyL t l := by unfold diffApply; rw [if_pos h]
theorem insN_mapB (out : List Nod) (n : Nod) : (insN out n).map Nod.bare = insN (out.map Nod.bare) n.bare := by
  unfold insN
  rw [List.map_append, List.map_cons, List.takeWhile_map, List.dropWhile_map]
  rfl
theorem foldl_mapB : ∀ (l acc : List Nod), (l.foldl insN acc).map Nod.bare = (l.map Nod.bare).foldl insN (acc.map Nod.bare)
  | [], acc => rfl
  | n :: l, acc => by rw [List.foldl_cons, foldl_mapB l, insN_mapB, List.map_cons, List.foldl_cons]
theorem isort_mapB (l : List Nod) : (isort l).map Nod.bare = isort (l.map Nod.bare) := foldl_mapB l []
theorem applyE_bare {o m : List Nod} {c d : Chg} (h : o.map Nod.bare = m.map Nod.bare) (hk : c.kind = d.kind) (hn : c.node.bare = d.node.bare) : applyE o c = applyE m d := by
  unfold applyE
  rw [hk, (bare_parts hn).1, treeFind_map _ h, bare_len h]
theorem applyS_bare {o m : List Nod} {c d : Chg} (h : o.map Nod.bare = m.map Nod.bare) (hk : c.kind = d.kind) (hn : c.node.bare = d.node.bare) : (applyS o c).map Nod.bare = (applyS m d).map Nod.bare := by
  unfold applyS
  rw [hk, (bare_parts hn).1, treeFind_map _ h]
  split
  · rw [List.eraseIdx_eq_take_drop_succ, List.eraseIdx_eq_take_drop_succ, List.map_append, List.map_append, List.map_take, List.map_take, List.map_drop, List.map_drop, h]
  · split
    · rw [isort_mapB, isort_mapB, List.map_append, List.map_append, h]
      simp only [List.map_cons, List.map_nil, hn]
    · rw [List.map_set, List.map_set, h, hn]
theorem applyL_bare : ∀ {r : List Chg} {o m : List Nod}, o.map Nod.bare = m.map Nod.bare → (applyL o r).1.map Nod.bare = (applyL m r).1.map Nod.bare ∧ (applyL o r).2 = (applyL m r).2
  | [], o, m, h => by
    unfold applyL
    rw [treeFault_eq h]
    split
    · exact ⟨h, rfl⟩
    · exact ⟨rfl, rfl⟩
  | c :: r, o, m, h => by
    unfold applyL
    rw [applyE_bare h rfl rfl]
    split
    · exact applyL_bare (applyS_bare h rfl rfl)
    · exact ⟨rfl, rfl⟩
def AGo (o : List Nod) (r : List Chg) (U : List Nod × Int) : Prop := (applyL o r).1.map Nod.bare = U.1.map Nod.bare ∧ (applyL o r).2 = U.2
theorem AGo.start {o t : List Nod} {l : List Chg} (h : o.map Nod.bare = t.map Nod.bare) : AGo o l (applyL t l) := applyL_bare h
theorem AGo.bad {o : List Nod} {l : List Chg} {k : Nat} {U : List Nod × Int} (h : AGo o (l.drop k) U) (hk : k < l.length) {e : Int} (he : applyE o (ck l k) = e) (hz : ¬ e = 0) : U.1.map Nod.bare = [] ∧ U.2 = e := by
  rw [List.drop_eq_getElem_cons hk, ← ck_eq hk] at h
  unfold AGo applyL at h
  rw [he, if_neg hz] at h
  exact ⟨h.1.symm, h.2.symm⟩
theorem AGo.next {o p : List Nod} {l : List Chg} {k : Nat} {U : List Nod × Int} (h : AGo o (l.drop k) U) (hk : k < l.length) (he : applyE o (ck l k) = 0) (hp : p.map Nod.bare = (applyS o (ck l k)).map Nod.bare) : AGo p (l.drop (k + 1)) U := by
  rw [List.drop_eq_getElem_cons hk, ← ck_eq hk] at h
  unfold AGo at h ⊢
  unfold applyL at h
  rw [if_pos he] at h
  obtain ⟨g1, g2⟩ := applyL_bare (r := l.drop (k + 1)) hp
  exact ⟨g1.trans h.1, g2.trans h.2⟩
theorem AGo.done_ok {o : List Nod} {l : List Chg} {U : List Nod × Int} (h : AGo o (l.drop l.length) U) (hz : treeFault o = 0) : U.1.map Nod.bare = o.map Nod.bare ∧ U.2 = 0 := by
  rw [List.drop_length] at h
  unfold AGo applyL at h
  rw [if_pos hz] at h
  exact ⟨h.1.symm, h.2.symm⟩
theorem AGo.done_bad {o : List Nod} {l : List Chg} {U : List Nod × Int} (h : AGo o (l.drop l.length) U) (hz : ¬ treeFault o = 0) : U.1.map Nod.bare = [] ∧ U.2 = treeFault o := by
  rw [List.drop_length] at h
  unfold AGo applyL at h
  rw [if_neg hz] at h
  exact ⟨h.1.symm, h.2.symm⟩
theorem applyE_kind {o : List Nod} {c : Chg} (h : c.kind < 1 ∨ 3 < c.kind) : applyE o c = 2 := by unfold applyE; rw [if_pos h]
theorem applyE_none {o : List Nod} {c : Chg} (h : ¬ (c.kind < 1 ∨ 3 < c.kind)) (h2 : ¬ c.kind = 2) (hf : ¬ treeFind o c.node.path < o.length) : applyE o c = 5 := by unfold applyE; rw [if_neg h, if_pos ⟨h2, hf⟩]
theorem applyE_twice {o : List Nod} {c : Chg} (h2 : c.kind = 2) (hf : treeFind o c.node.path < o.length) : applyE o c = 6 := by unfold applyE; rw [if_neg (by omega), if_neg (fun e => e.1 h2), if_pos ⟨h2, hf⟩]
theorem applyE_new {o : List Nod} {c : Chg} (h2 : c.kind = 2) (hf : ¬ treeFind o c.node.path < o.length) : applyE o c = 0 := by unfold applyE; rw [if_neg (by omega), if_neg (fun e => e.1 h2), if_neg (fun e => hf e.2)]
theorem applyE_old {o : List Nod} {c : Chg} (h : ¬ (c.kind < 1 ∨ 3 < c.kind)) (h2 : ¬ c.kind = 2) (hf : treeFind o c.node.path < o.length) : applyE o c = 0 := by unfold applyE; rw [if_neg h, if_neg (fun e => e.2 hf), if_neg (fun e => h2 e.1)]
theorem applyS_gone {o : List Nod} {c : Chg} (h : c.kind = 1) : applyS o c = o.eraseIdx (treeFind o c.node.path) := by unfold applyS; rw [if_pos h]
theorem applyS_new {o : List Nod} {c : Chg} (h : c.kind = 2) : applyS o c = isort (o ++ [c.node]) := by unfold applyS; rw [if_neg (by omega), if_pos h]
theorem applyS_other {o : List Nod} {c : Chg} (h1 : ¬ c.kind = 1) (h2 : ¬ c.kind = 2) : applyS o c = o.set (treeFind o c.node.path) c.node := by unfold applyS; rw [if_neg h1, if_neg h2]
structure NodShort (x : Nod) : Prop where
  path : x.path.size ≤ 1048576
  data : x.data.length ≤ 140737488355328
def NodsShort (l : List Nod) : Prop := ∀ x ∈ l, NodShort x
theorem NodsShort.bare {l m : List Nod} (h : NodsShort m) (e : l.map Nod.bare = m.map Nod.bare) : NodsShort l := by
  intro x hx
  have h1 : x.bare ∈ m.map Nod.bare := by rw [← e]; exact List.mem_map.2 ⟨x, hx, rfl⟩
  obtain ⟨y, hy, e2⟩ := List.mem_map.1 h1
  have := h y hy
  exact ⟨by rw [show x.path = y.path from (congrArg Nod.path e2).symm]; exact this.path, by rw [show x.data = y.data from (congrArg Nod.data e2).symm]; exact this.data⟩
theorem NodsShort.step {o : List Nod} {c : Chg} (h : NodsShort o) (hc : NodShort c.node) : NodsShort (applyS o c) := by
  intro x hx
  unfold applyS at hx
  split at hx
  · exact h x (List.mem_of_mem_eraseIdx hx)
  · split at hx
    · rcases List.mem_append.1 (isort_mem.1 hx) with e | e
      · exact h x e
      · rw [List.mem_singleton.1 e]; exact hc
    · rcases List.mem_or_eq_of_mem_set hx with e | e
      · exact h x e
      · rw [e]; exact hc
theorem applyS_len {o : List Nod} {c : Chg} {n : Nat} (h : o.length ≤ n) : (applyS o c).length ≤ n + 1 := by
  unfold applyS
  split
  · have := List.length_eraseIdx_le o (treeFind o c.node.path); omega
  · split
    · rw [isort_len, List.length_append]; simp; omega
    · rw [List.length_set]; omega
open Go.RowKit
theorem nk_ext {l m : List Nod} (h : l.length = m.length) (he : ∀ k, k < l.length → nk l k = nk m k) : l = m := by
  apply List.ext_getElem h
  intro k h1 h2
  rw [← nk_eq h1, ← nk_eq h2]
  exact he k h1
theorem nk_app (l m : List Nod) (k : Nat) : nk (l ++ m) k = if k < l.length then nk l k else nk m (k - l.length) := by
  unfold nk
  rw [List.getD_eq_getElem?_getD, List.getD_eq_getElem?_getD, List.getD_eq_getElem?_getD]
  by_cases h : k < l.length
  · rw [if_pos h, List.getElem?_append_left h]
  · rw [if_neg h, List.getElem?_append_right (by omega)]
theorem nk_drop (l : List Nod) (a k : Nat) : nk (l.drop a) k = nk l (a + k) := by
  unfold nk
  rw [List.getD_eq_getElem?_getD, List.getD_eq_getElem?_getD, List.getElem?_drop]
theorem nk_map_range {n : Nat} {f : Nat → Nod} {k : Nat} (h : k < n) : nk ((List.range n).map f) k = f k := by
  rw [nk_eq (by simpa using h)]; simp
def placed (l : List Nod) (p : Nat → Nat) : List Nod := (List.range l.length).map fun k => nk l (p k)
theorem placed_len (l : List Nod) (p : Nat → Nat) : (placed l p).length = l.length := by simp [placed]
theorem placed_at {l : List Nod} {p : Nat → Nat} {k : Nat} (h : k < l.length) : nk (placed l p) k = nk l (p k) := nk_map_range h
theorem placed_eq {l : List Nod} {p q : Nat → Nat} (h : ∀ k, k < l.length → p k = q k) : placed l p = placed l q := by
  refine nk_ext (by rw [placed_len, placed_len]) fun k hk => ?_
  rw [placed_len] at hk
  rw [placed_at hk, placed_at hk, h k hk]
theorem placed_placed {l : List Nod} {p q r : Nat → Nat} (hq : ∀ k, k < l.length → q k < l.length) (h : ∀ k, k < l.length → p (q k) = r k) : placed (placed l p) q = placed l r := by
  refine nk_ext (by rw [placed_len, placed_len, placed_len]) fun k hk => ?_
  rw [placed_len, placed_len] at hk
  rw [placed_at (by rw [placed_len]; exact hk), placed_at (hq k hk), placed_at hk, h k hk]
theorem placed_id {l : List Nod} {p : Nat → Nat} (h : ∀ k, k < l.length → p k = k) : placed l p = l := by
  refine nk_ext (placed_len _ _) fun k hk => ?_
  rw [placed_len] at hk
  rw [placed_at hk, h k hk]
def swapIx (a b n k : Nat) : Nat := if a ≤ k ∧ k < a + n then k - a + b else if b ≤ k ∧ k < b + n then k - b + a else k
def turnIx (a m b k : Nat) : Nat := if a ≤ k ∧ k < b then (if k < a + (b - m) then k - a + m else k - (b - m)) else k
def swapL (l : List Nod) (a b n : Nat) : List Nod := placed l (swapIx a b n)
def turnL (l : List Nod) (a m b : Nat) : List Nod := placed l (turnIx a m b)
theorem swapL_len (l : List Nod) (a b n : Nat) : (swapL l a b n).length = l.length := placed_len _ _
theorem turnL_len (l : List Nod) (a m b : Nat) : (turnL l a m b).length = l.length := placed_len _ _
theorem swapL_zero (l : List Nod) (a b : Nat) : swapL l a b 0 = l := placed_id fun k hk => by unfold swapIx; rw [if_neg (by omega), if_neg (by omega)]
theorem swapL_step {l : List Nod} {a b i : Nat} (h1 : a + i < b) (h2 : b + i < l.length) :
    ((swapL l a b i).set (a + i) (nk (swapL l a b i) (b + i))).set (b + i) (nk (swapL l a b i) (a + i)) = swapL l a b (i + 1) := by
  have e1 : nk (swapL l a b i) (b + i) = nk l (b + i) := by
    unfold swapL
    rw [placed_at h2]; unfold swapIx; rw [if_neg (by omega), if_neg (by omega)]
  have e2 : nk (swapL l a b i) (a + i) = nk l (a + i) := by
    unfold swapL
    rw [placed_at (by omega)]; unfold swapIx; rw [if_neg (by omega), if_neg (by omega)]
  rw [e1, e2]
  refine nk_ext (by simp only [List.length_set, swapL_len]) fun k hk => ?_
  simp only [List.length_set, swapL_len] at hk
  rw [nk_set (by rw [List.length_set, swapL_len]; exact h2), nk_set (by rw [swapL_len]; omega)]
  unfold swapL
  rw [placed_at hk, placed_at hk]
  unfold swapIx
  by_cases c1 : k = b + i
  · rw [if_pos c1, if_neg (by omega), if_pos (by omega)]; congr 1; omega
  · rw [if_neg c1]
    by_cases c2 : k = a + i
    · rw [if_pos c2, if_pos (by omega)]; congr 1; omega
    · rw [if_neg c2]
      by_cases c3 : a ≤ k ∧ k < a + i
      · rw [if_pos c3, if_pos (by omega)]
      · rw [if_neg c3]
        by_cases c4 : b ≤ k ∧ k < b + i
        · rw [if_pos c4, if_neg (by omega), if_pos (by omega)]
        · rw [if_neg c4, if_neg (by omega), if_neg (by omega)]
theorem turn_swap_left {l : List Nod} {m i j : Nat} (h1 : j < i) (h2 : i ≤ m) (h3 : m + j ≤ l.length) (hj : 0 < j) : turnL (swapL l (m - i) m j) (m - (i - j)) m (m + j) = turnL l (m - i) m (m + j) := by
  refine placed_placed (fun k hk => ?_) (fun k hk => ?_)
  · unfold turnIx; split <;> (try split) <;> omega
  · unfold turnIx swapIx
    repeat' split
    all_goals omega
theorem turn_swap_right {l : List Nod} {m i j : Nat} (h1 : i < j) (h2 : i ≤ m) (h3 : m + j ≤ l.length) (hi : 0 < i) : turnL (swapL l (m - i) (m + j - i) i) (m - i) m (m + (j - i)) = turnL l (m - i) m (m + j) := by
  refine placed_placed (fun k hk => ?_) (fun k hk => ?_)
  · unfold turnIx; split <;> (try split) <;> omega
  · unfold turnIx swapIx
    repeat' split
    all_goals omega
theorem turn_swap_same {l : List Nod} {m i : Nat} (h2 : i ≤ m) (h3 : m + i ≤ l.length) : swapL l (m - i) m i = turnL l (m - i) m (m + i) := by
  refine placed_eq fun k hk => ?_
  unfold turnIx swapIx
  repeat' split
  all_goals omega
theorem turnL_parts {p u v q : List Nod} : turnL (p ++ (u ++ (v ++ q))) p.length (p.length + u.length) (p.length + u.length + v.length) = p ++ (v ++ (u ++ q)) := by
  refine nk_ext (by rw [turnL_len]; simp only [List.length_append]; omega) fun k hk => ?_
  rw [turnL_len] at hk
  unfold turnL
  rw [placed_at hk]
  simp only [List.length_append] at hk
  unfold turnIx
  by_cases c : p.length ≤ k ∧ k < p.length + u.length + v.length
  · rw [if_pos c]
    by_cases c1 : k < p.length + (p.length + u.length + v.length - (p.length + u.length))
    · rw [if_pos c1]
      simp only [nk_app]
      rw [if_neg (by omega), if_neg (by omega), if_pos (by omega), if_neg (by omega), if_pos (by omega)]
      congr 1; omega
    · rw [if_neg c1]
      simp only [nk_app]
      rw [if_neg (by omega), if_pos (by omega), if_neg (by omega), if_neg (by omega), if_pos (by omega)]
      congr 1; omega
  · rw [if_neg c]
    simp only [nk_app]
    by_cases c1 : k < p.length
    · rw [if_pos c1, if_pos c1]
    · rw [if_neg c1, if_neg c1, if_neg (by omega), if_neg (by omega), if_neg (by omega), if_neg (by omega)]
      congr 1; omega
theorem turnL_none (l : List Nod) (a b : Nat) (h : b ≤ l.length) : turnL l a a b = l := placed_id fun k hk => by
  unfold turnIx
  repeat' split
  all_goals omega
theorem turnL_zero (l : List Nod) (a b : Nat) : turnL l a b b = l := placed_id fun k hk => by
  unfold turnIx
  repeat' split
  all_goals omega
theorem turn_up {l : List Nod} {a k : Nat} (h1 : a ≤ k) (h2 : k + 1 < l.length) :
    ((turnL l a (a + 1) (k + 1)).set k (nk (turnL l a (a + 1) (k + 1)) (k + 1))).set (k + 1) (nk (turnL l a (a + 1) (k + 1)) k) = turnL l a (a + 1) (k + 2) := by
  refine nk_ext (by simp only [List.length_set, turnL_len]) fun i hi => ?_
  simp only [List.length_set, turnL_len] at hi
  rw [nk_set (by rw [List.length_set, turnL_len]; omega), nk_set (by rw [turnL_len]; omega)]
  unfold turnL
  rw [placed_at h2, placed_at (by omega), placed_at hi, placed_at hi]
  unfold turnIx
  repeat' split
  all_goals first | omega | (congr 1; omega) | rfl
theorem turn_down {l : List Nod} {m k : Nat} (h0 : 0 < k) (h1 : k ≤ m) (h2 : m < l.length) :
    ((turnL l k m (m + 1)).set k (nk (turnL l k m (m + 1)) (k - 1))).set (k - 1) (nk (turnL l k m (m + 1)) k) = turnL l (k - 1) m (m + 1) := by
  refine nk_ext (by simp only [List.length_set, turnL_len]) fun i hi => ?_
  simp only [List.length_set, turnL_len] at hi
  rw [nk_set (by rw [List.length_set, turnL_len]; omega), nk_set (by rw [turnL_len]; omega)]
  unfold turnL
  rw [placed_at (by omega), placed_at (by omega), placed_at hi, placed_at hi]
  unfold turnIx
  repeat' split
  all_goals first | omega | (congr 1; omega) | rfl
open Go.RowKit
theorem ordN_lt0 {x y : Nod} : ordN x y < 0 ↔ ¬ PathLe y x := by
  have := ordN_anti x y
  unfold PathLe
  omega
theorem lt_of_le_lt {x y z : Nod} (h1 : PathLe x y) (h2 : ordN y z < 0) : ordN x z < 0 := by
  rw [ordN_lt0] at h2 ⊢
  exact fun h3 => h2 (ordN_le_trans h3 h1)
theorem lt_of_lt_le {x y z : Nod} (h1 : ordN x y < 0) (h2 : PathLe y z) : ordN x z < 0 := by
  rw [ordN_lt0] at h1 ⊢
  exact fun h3 => h1 (ordN_le_trans h2 h3)
theorem le_of_lt {x y : Nod} (h : ordN x y < 0) : PathLe x y := by unfold PathLe; omega
theorem nk_sorted {l : List Nod} (h : l.Pairwise PathLe) {i j : Nat} (hij : i ≤ j) (hj : j < l.length) : PathLe (nk l i) (nk l j) := by
  rcases Nat.lt_or_ge i j with c | c
  · rw [nk_eq hj, nk_eq (by omega)]
    exact List.pairwise_iff_getElem.1 h i j (by omega) hj c
  · obtain rfl : i = j := by omega
    exact Int.le_of_eq (ordN_self rfl)
theorem mem_nk {l : List Nod} {x : Nod} (h : x ∈ l) : ∃ i, i < l.length ∧ x = nk l i := by
  obtain ⟨i, hi, e⟩ := List.mem_iff_getElem.1 h
  exact ⟨i, hi, by rw [nk_eq hi]; exact e.symm⟩
theorem insert_done {p x q : List Nod} {k j : Nat} (hk : k < x.length) (hj : j ≤ k) (h1 : ∀ i, j ≤ i → i < k → ordN (nk x k) (nk (isort (x.take k)) i) < 0) (h2 : 0 < j → ¬ ordN (nk x k) (nk (isort (x.take k)) (j - 1)) < 0) :
    turnL (p ++ (isort (x.take k) ++ (x.drop k ++ q))) (p.length + j) (p.length + k) (p.length + k + 1) = p ++ (isort (x.take (k + 1)) ++ (x.drop (k + 1) ++ q)) := by
  have hl : (isort (x.take k)).length = k := by rw [isort_len, List.length_take]; omega
  have hs := isort_sorted (x.take k)
  rw [isort_take hk]
  have e := ins_at (out := isort (x.take k)) (n := nk x k) (k := j) hs (by omega) (fun i h3 h4 => by have := h1 i h3 (by omega); have := ordN_anti (nk x k) (nk (isort (x.take k)) i); omega) (fun h3 => by have := h2 h3; have := ordN_anti (nk x k) (nk (isort (x.take k)) (j - 1)); omega)
  rw [e]
  generalize isort (x.take k) = o at *
  rw [List.drop_eq_getElem_cons hk, ← nk_eq hk]
  generalize nk x k = n
  generalize x.drop (k + 1) = r
  have hp := turnL_parts (p := p ++ o.take j) (u := o.drop j) (v := [n]) (q := r ++ q)
  have l1 : (p ++ o.take j).length = p.length + j := by rw [List.length_append, List.length_take]; omega
  have l2 : (o.drop j).length = k - j := by rw [List.length_drop]; omega
  rw [l1, l2, show p.length + j + (k - j) = p.length + k by omega] at hp
  have e1 : p ++ o.take j ++ (o.drop j ++ ([n] ++ (r ++ q))) = p ++ (o ++ (n :: r ++ q)) := by
    rw [List.append_assoc, ← List.append_assoc (o.take j), List.take_append_drop]; rfl
  rw [e1] at hp
  rw [show ([n] : List Nod).length = 1 from rfl] at hp
  rw [hp]
  simp
theorem merge_cut {l r : List Nod} {i j : Nat} (hl : l.Pairwise PathLe) (hr : r.Pairwise PathLe) (hi : i ≤ l.length) (hj : j ≤ r.length) (h1 : 0 < i → j < r.length → ¬ ordN (nk r j) (nk l (i - 1)) < 0) (h2 : i < l.length → 0 < j → ordN (nk r (j - 1)) (nk l i) < 0) :
    isort (l.take i ++ r.take j) ++ isort (l.drop i ++ r.drop j) = isort (l ++ r) := by
  have h := isort_turned (l1 := l.take i) (l2 := l.drop i) (r1 := r.take j) (r2 := r.drop j) (by rw [List.take_append_drop]; exact hl) (by rw [List.take_append_drop]; exact hr) (fun x hx y hy => ?_) (fun x hx y hy => ?_)
  · rw [List.take_append_drop, List.take_append_drop] at h
    exact h
  · obtain ⟨a, ha, rfl⟩ := mem_nk hx
    obtain ⟨b, hb, rfl⟩ := mem_nk hy
    rw [List.length_take] at ha
    rw [List.length_drop] at hb
    rw [nk_take (by omega), nk_drop]
    have h3 := h1 (by omega) (by omega)
    rw [ordN_lt0] at h3
    have h4 : PathLe (nk l (i - 1)) (nk r j) := Classical.byContradiction h3
    exact ordN_le_trans (nk_sorted hl (by omega) (by omega)) (ordN_le_trans h4 (nk_sorted hr (by omega) (by omega)))
  · obtain ⟨a, ha, rfl⟩ := mem_nk hx
    obtain ⟨b, hb, rfl⟩ := mem_nk hy
    rw [List.length_take] at ha
    rw [List.length_drop] at hb
    rw [nk_take (by omega), nk_drop]
    have h3 := h2 (by omega) (by omega)
    exact lt_of_le_lt (nk_sorted hr (by omega) (by omega)) (lt_of_lt_le h3 (nk_sorted hl (by omega) (by omega)))
end Go.Creel
