/-
  What is another one in two trees: plain words and laws.
-/
import Derived.Test.YtaffgndickdbiaaDoorSortSpec
import Derived.Test.YtaffgndickdbiaaDoorFindN
namespace Go.Creel
set_option linter.unusedVariables false
set_option linter.unusedSimpArgs false
open Go.RowKit
/-- a change: its kind, and the node -/
structure Chg where
  kind : Int
  node : Nod
def Chg.bare (c : Chg) : Chg := ⟨c.kind, c.node.bare⟩
open Classical in
/-- what a node in both trees says -/
noncomputable def othN (x y : Nod) : List Chg := if x.bare = y.bare then [] else [⟨3, y⟩]
/-- the changes, both trees side by side -/
noncomputable def diffL : List Nod → List Nod → List Chg
  | [], b => b.map fun y => ⟨2, y⟩
  | x :: a, [] => ⟨1, x⟩ :: diffL a []
  | x :: a, y :: b => if ordN x y = -1 then ⟨1, x⟩ :: diffL a (y :: b) else if ordN x y = 1 then ⟨2, y⟩ :: diffL (x :: a) b else othN x y ++ diffL a b
  termination_by a b => a.length + b.length
/-- the nodes of both trees in order, those of the first one where both have the path -/
def bothL : List Nod → List Nod → List Nod
  | [], b => b
  | x :: a, [] => x :: bothL a []
  | x :: a, y :: b => if ordN x y = -1 then x :: bothL a (y :: b) else if ordN x y = 1 then y :: bothL (x :: a) b else x :: bothL a b
  termination_by a b => a.length + b.length
theorem diffL_left {a : List Nod} {x : Nod} : diffL (x :: a) [] = ⟨1, x⟩ :: diffL a [] := by rw [diffL]
theorem diffL_nil (b : List Nod) : diffL [] b = b.map fun y => ⟨2, y⟩ := by rw [diffL]
theorem diffL_lt {a b : List Nod} {x y : Nod} (h : ordN x y = -1) : diffL (x :: a) (y :: b) = ⟨1, x⟩ :: diffL a (y :: b) := by rw [diffL, if_pos h]
theorem diffL_gt {a b : List Nod} {x y : Nod} (h : ordN x y = 1) : diffL (x :: a) (y :: b) = ⟨2, y⟩ :: diffL (x :: a) b := by rw [diffL, if_neg (by omega), if_pos h]
theorem diffL_eq {a b : List Nod} {x y : Nod} (h : ordN x y = 0) : diffL (x :: a) (y :: b) = othN x y ++ diffL a b := by rw [diffL, if_neg (by omega), if_neg (by omega)]
theorem bothL_nil (b : List Nod) : bothL [] b = b := by rw [bothL]
theorem bothL_left {a : List Nod} {x : Nod} : bothL (x :: a) [] = x :: bothL a [] := by rw [bothL]
theorem bothL_lt {a b : List Nod} {x y : Nod} (h : ordN x y = -1) : bothL (x :: a) (y :: b) = x :: bothL a (y :: b) := by rw [bothL, if_pos h]
theorem bothL_gt {a b : List Nod} {x y : Nod} (h : ordN x y = 1) : bothL (x :: a) (y :: b) = y :: bothL (x :: a) b := by rw [bothL, if_neg (by omega), if_pos h]
theorem bothL_eq {a b : List Nod} {x y : Nod} (h : ordN x y = 0) : bothL (x :: a) (y :: b) = x :: bothL a b := by rw [bothL, if_neg (by omega), if_neg (by omega)]
/-- induction over two lists, as the merge goes -/
theorem merge_ind {motive : List Nod → List Nod → Prop} (h0 : ∀ b, motive [] b) (h1 : ∀ x a, motive a [] → motive (x :: a) []) (h2 : ∀ x a y b, ordN x y = -1 → motive a (y :: b) → motive (x :: a) (y :: b))
    (h3 : ∀ x a y b, ordN x y = 1 → motive (x :: a) b → motive (x :: a) (y :: b)) (h4 : ∀ x a y b, ordN x y = 0 → motive a b → motive (x :: a) (y :: b)) : ∀ a b, motive a b := by
  have key : ∀ n, ∀ a b : List Nod, a.length + b.length = n → motive a b := by
    intro n
    induction n using Nat.strongRecOn with
    | _ n ih =>
      intro a b hn
      cases a with
      | nil => exact h0 b
      | cons x a =>
        cases b with
        | nil => exact h1 x a (ih (a.length + 0) (by simp at hn ⊢; omega) a [] (by simp))
        | cons y b =>
          rcases ordN_range x y with e | e | e
          · exact h2 x a y b e (ih _ (by simp at hn ⊢; omega) a (y :: b) rfl)
          · exact h4 x a y b e (ih _ (by simp at hn ⊢; omega) a b rfl)
          · exact h3 x a y b e (ih _ (by simp at hn ⊢; omega) (x :: a) b rfl)
  exact fun a b => key _ a b rfl
def OrdL (l : List Nod) : Prop := l.Pairwise PathLt
theorem ordL_cons {x : Nod} {l : List Nod} : OrdL (x :: l) ↔ (∀ y ∈ l, PathLt x y) ∧ OrdL l := List.pairwise_cons
theorem not_lt_self {z : Nod} (h : PathLt z z) : False := pathLt_ne h rfl
theorem lt_of_gt {x y : Nod} (h : ordN x y = 1) : PathLt y x := by
  have := ordN_anti x y
  show ordN y x = -1
  omega
theorem lt_of_eq {x y z : Nod} (h : ordN x y = 0) (hz : PathLt y z) : PathLt x z := by
  unfold PathLt at hz ⊢; rw [ordN_path h]; exact hz
theorem bothL_mem (a b : List Nod) : OrdL a → OrdL b → ∀ z, z ∈ bothL a b ↔ z ∈ a ∨ (z ∈ b ∧ ∀ x ∈ a, x.path ≠ z.path) := by
  refine merge_ind (motive := fun a b => OrdL a → OrdL b → ∀ z, z ∈ bothL a b ↔ z ∈ a ∨ (z ∈ b ∧ ∀ x ∈ a, x.path ≠ z.path)) ?_ ?_ ?_ ?_ ?_ a b
  · intro b ha hb z; rw [bothL_nil]; simp
  · intro x a ih ha hb z
    rw [bothL_left, List.mem_cons, ih (ordL_cons.1 ha).2 hb z]; simp
  · intro x a y b e ih ha hb z
    have ha' := ordL_cons.1 ha
    have hb' := ordL_cons.1 hb
    rw [bothL_lt e, List.mem_cons, ih ha'.2 hb z, List.mem_cons (a := z) (b := x)]
    have hne : z ∈ y :: b → x.path ≠ z.path := by
      intro hz
      rcases List.mem_cons.1 hz with rfl | hz
      · exact pathLt_ne e
      · exact pathLt_ne (pathLt_trans e (hb'.1 z hz))
    constructor
    · rintro (h | h | ⟨h, h2⟩)
      · exact .inl (.inl h)
      · exact .inl (.inr h)
      · refine .inr ⟨h, fun u hu => ?_⟩
        rcases List.mem_cons.1 hu with rfl | hu
        · exact hne h
        · exact h2 u hu
    · rintro ((h | h) | ⟨h, h2⟩)
      · exact .inl h
      · exact .inr (.inl h)
      · exact .inr (.inr ⟨h, fun u hu => h2 u (by simp [hu])⟩)
  · intro x a y b e ih ha hb z
    have ha' := ordL_cons.1 ha
    have hb' := ordL_cons.1 hb
    rw [bothL_gt e, List.mem_cons, ih ha hb'.2 z, List.mem_cons (a := z) (b := y)]
    have hyx : PathLt y x := lt_of_gt e
    have hne : ∀ u ∈ x :: a, u.path ≠ y.path := by
      intro u hu
      rcases List.mem_cons.1 hu with rfl | hu
      · exact (pathLt_ne hyx).symm
      · exact (pathLt_ne (pathLt_trans hyx (ha'.1 u hu))).symm
    constructor
    · rintro (h | h | ⟨h, h2⟩)
      · subst h; exact .inr ⟨.inl rfl, hne⟩
      · exact .inl h
      · exact .inr ⟨.inr h, h2⟩
    · rintro (h | ⟨h | h, h2⟩)
      · exact .inr (.inl h)
      · exact .inl h
      · exact .inr (.inr ⟨h, h2⟩)
  · intro x a y b e ih ha hb z
    have ha' := ordL_cons.1 ha
    have hb' := ordL_cons.1 hb
    rw [bothL_eq e, List.mem_cons, ih ha'.2 hb'.2 z, List.mem_cons (a := z) (b := x), List.mem_cons (a := z) (b := y)]
    constructor
    · rintro (h | h | ⟨h, h2⟩)
      · exact .inl (.inl h)
      · exact .inl (.inr h)
      · refine .inr ⟨.inr h, fun u hu => ?_⟩
        rcases List.mem_cons.1 hu with rfl | hu
        · exact pathLt_ne (lt_of_eq e (hb'.1 z h))
        · exact h2 u hu
    · rintro ((h | h) | ⟨h | h, h2⟩)
      · exact .inl h
      · exact .inr (.inl h)
      · subst h; exact absurd (ordN_path e) (h2 x (by simp))
      · exact .inr (.inr ⟨h, fun u hu => h2 u (by simp [hu])⟩)
theorem bothL_low (a b : List Nod) (u : Nod) (ha : ∀ x ∈ a, PathLt u x) (hb : ∀ x ∈ b, PathLt u x) (ho : OrdL a) (ho2 : OrdL b) : ∀ z ∈ bothL a b, PathLt u z := by
  intro z hz
  rcases (bothL_mem a b ho ho2 z).1 hz with h | h
  · exact ha z h
  · exact hb z h.1
theorem bothL_ord (a b : List Nod) : OrdL a → OrdL b → OrdL (bothL a b) := by
  refine merge_ind (motive := fun a b => OrdL a → OrdL b → OrdL (bothL a b)) ?_ ?_ ?_ ?_ ?_ a b
  · intro b ha hb; rw [bothL_nil]; exact hb
  · intro x a ih ha hb
    have ha' := ordL_cons.1 ha
    rw [bothL_left]
    exact ordL_cons.2 ⟨bothL_low a [] x ha'.1 (by simp) ha'.2 hb, ih ha'.2 hb⟩
  · intro x a y b e ih ha hb
    have ha' := ordL_cons.1 ha
    have hb' := ordL_cons.1 hb
    rw [bothL_lt e]
    refine ordL_cons.2 ⟨bothL_low a (y :: b) x ha'.1 (fun z hz => ?_) ha'.2 hb, ih ha'.2 hb⟩
    rcases List.mem_cons.1 hz with rfl | hz
    · exact e
    · exact pathLt_trans e (hb'.1 z hz)
  · intro x a y b e ih ha hb
    have ha' := ordL_cons.1 ha
    have hb' := ordL_cons.1 hb
    rw [bothL_gt e]
    refine ordL_cons.2 ⟨bothL_low (x :: a) b y (fun z hz => ?_) hb'.1 ha hb'.2, ih ha hb'.2⟩
    rcases List.mem_cons.1 hz with rfl | hz
    · exact lt_of_gt e
    · exact pathLt_trans (lt_of_gt e) (ha'.1 z hz)
  · intro x a y b e ih ha hb
    have ha' := ordL_cons.1 ha
    have hb' := ordL_cons.1 hb
    rw [bothL_eq e]
    exact ordL_cons.2 ⟨bothL_low a b x ha'.1 (fun z hz => lt_of_eq e (hb'.1 z hz)) ha'.2 hb'.2, ih ha'.2 hb'.2⟩
theorem find_mem : ∀ {l : List Nod} {s : ByteArray} {x : Nod}, x ∈ l → x.path = s → treeFind l s < l.length
  | [], _, _, h, _ => by cases h
  | y :: l, s, x, h, e => by
    unfold treeFind
    by_cases e1 : y.path = s
    · rw [if_pos e1]; simp
    · rw [if_neg e1]
      have := find_mem (l := l) (s := s) (by rcases List.mem_cons.1 h with rfl | h; exact absurd e e1; exact h) e
      simp; omega
theorem find_cons_hit {x : Nod} {a : List Nod} {s : ByteArray} (h : x.path = s) : treeFind (x :: a) s = 0 := by unfold treeFind; rw [if_pos h]
theorem find_cons_miss {x : Nod} {a : List Nod} {s : ByteArray} (h : x.path ≠ s) : treeFind (x :: a) s = treeFind a s + 1 := by conv => lhs; unfold treeFind; rw [if_neg h]
theorem find_none {a : List Nod} {s : ByteArray} (h : ∀ x ∈ a, x.path ≠ s) : treeFind a s = a.length := treeFind_no fun j hj => h _ (nk_mem hj)
theorem find_out {a : List Nod} {s : ByteArray} : treeFind a s = a.length ↔ ∀ x ∈ a, x.path ≠ s := by
  refine ⟨fun h x hx e => ?_, find_none⟩
  have := find_mem hx e
  omega
theorem nk_succ (x : Nod) (a : List Nod) (i : Nat) : nk (x :: a) (i + 1) = nk a i := by unfold nk; rw [List.getD_cons_succ]
theorem nk_zero (x : Nod) (a : List Nod) : nk (x :: a) 0 = x := rfl
/-- the change of a path -/
noncomputable def chgAt (a b : List Nod) (s : ByteArray) : List Chg :=
  if treeFind b s = b.length then [⟨1, nk a (treeFind a s)⟩] else if treeFind a s = a.length then [⟨2, nk b (treeFind b s)⟩] else othN (nk a (treeFind a s)) (nk b (treeFind b s))
theorem chgAt_left {a b : List Nod} {x : Nod} {s : ByteArray} (h : x.path ≠ s) : chgAt (x :: a) b s = chgAt a b s := by
  unfold chgAt
  rw [find_cons_miss h, nk_succ, List.length_cons]
  simp
theorem chgAt_right {a b : List Nod} {y : Nod} {s : ByteArray} (h : y.path ≠ s) : chgAt a (y :: b) s = chgAt a b s := by
  unfold chgAt
  rw [find_cons_miss h, nk_succ, List.length_cons]
  simp
theorem flatMap_ext {α β : Type} {f g : α → List β} : ∀ {l : List α}, (∀ x ∈ l, f x = g x) → l.flatMap f = l.flatMap g
  | [], _ => rfl
  | x :: l, h => by rw [List.flatMap_cons, List.flatMap_cons, h x (by simp), flatMap_ext (l := l) (fun y hy => h y (by simp [hy]))]
theorem diff_both (a b : List Nod) : OrdL a → OrdL b → (bothL a b).flatMap (fun n => chgAt a b n.path) = diffL a b := by
  refine merge_ind (motive := fun a b => OrdL a → OrdL b → (bothL a b).flatMap (fun n => chgAt a b n.path) = diffL a b) ?_ ?_ ?_ ?_ ?_ a b
  · intro b ha hb
    rw [bothL_nil, diffL_nil]
    induction b with
    | nil => rfl
    | cons y b ih =>
      have hb' := ordL_cons.1 hb
      rw [List.flatMap_cons, List.map_cons, ← ih hb'.2]
      have h1 : chgAt [] (y :: b) y.path = [⟨2, y⟩] := by
        unfold chgAt; rw [find_cons_hit rfl, if_neg (by simp), if_pos (show treeFind [] y.path = ([] : List Nod).length from rfl)]; rfl
      rw [h1, flatMap_ext (f := fun n => chgAt [] (y :: b) n.path) (g := fun n => chgAt [] b n.path) (fun z hz => chgAt_right (pathLt_ne (hb'.1 z hz)))]
      rfl
  · intro x a ih ha hb
    have ha' := ordL_cons.1 ha
    rw [bothL_left, diffL_left, List.flatMap_cons, ← ih ha'.2 hb]
    have h1 : chgAt (x :: a) [] x.path = [⟨1, x⟩] := by unfold chgAt; rw [if_pos (show treeFind [] x.path = ([] : List Nod).length from rfl), find_cons_hit rfl]; rfl
    rw [h1, flatMap_ext (f := fun n => chgAt (x :: a) [] n.path) (g := fun n => chgAt a [] n.path) (fun z hz => chgAt_left (pathLt_ne (bothL_low a [] x ha'.1 (by simp) ha'.2 hb z hz)))]
    rfl
  · intro x a y b e ih ha hb
    have ha' := ordL_cons.1 ha
    have hb' := ordL_cons.1 hb
    have hxb : ∀ z ∈ y :: b, PathLt x z := by
      intro z hz
      rcases List.mem_cons.1 hz with rfl | hz
      · exact e
      · exact pathLt_trans e (hb'.1 z hz)
    rw [bothL_lt e, diffL_lt e, List.flatMap_cons, ← ih ha'.2 hb]
    have h1 : chgAt (x :: a) (y :: b) x.path = [⟨1, x⟩] := by
      unfold chgAt; rw [if_pos (find_none fun z hz => (pathLt_ne (hxb z hz)).symm), find_cons_hit rfl]; rfl
    rw [h1, flatMap_ext (f := fun n => chgAt (x :: a) (y :: b) n.path) (g := fun n => chgAt a (y :: b) n.path) (fun z hz => chgAt_left (pathLt_ne (bothL_low a (y :: b) x ha'.1 hxb ha'.2 hb z hz)))]
    rfl
  · intro x a y b e ih ha hb
    have ha' := ordL_cons.1 ha
    have hb' := ordL_cons.1 hb
    have hya : ∀ z ∈ x :: a, PathLt y z := by
      intro z hz
      rcases List.mem_cons.1 hz with rfl | hz
      · exact lt_of_gt e
      · exact pathLt_trans (lt_of_gt e) (ha'.1 z hz)
    rw [bothL_gt e, diffL_gt e, List.flatMap_cons, ← ih ha hb'.2]
    have h1 : chgAt (x :: a) (y :: b) y.path = [⟨2, y⟩] := by
      unfold chgAt; rw [find_cons_hit (x := y) rfl, if_neg (by simp), if_pos (find_none fun z hz => (pathLt_ne (hya z hz)).symm)]; rfl
    rw [h1, flatMap_ext (f := fun n => chgAt (x :: a) (y :: b) n.path) (g := fun n => chgAt (x :: a) b n.path) (fun z hz => chgAt_right (pathLt_ne (bothL_low (x :: a) b y hya hb'.1 ha hb'.2 z hz)))]
    rfl
  · intro x a y b e ih ha hb
    have ha' := ordL_cons.1 ha
    have hb' := ordL_cons.1 hb
    have hp := ordN_path e
    have hxb : ∀ z ∈ b, PathLt x z := fun z hz => lt_of_eq e (hb'.1 z hz)
    rw [bothL_eq e, diffL_eq e, List.flatMap_cons, ← ih ha'.2 hb'.2]
    have h1 : chgAt (x :: a) (y :: b) x.path = othN x y := by
      unfold chgAt; rw [find_cons_hit (x := y) hp.symm, find_cons_hit (x := x) rfl, if_neg (by simp), if_neg (by simp)]; rfl
    have hlow := bothL_low a b x ha'.1 hxb ha'.2 hb'.2
    rw [h1]
    refine congrArg (othN x y ++ ·) (flatMap_ext fun z hz => ?_)
    have hx := pathLt_ne (hlow z hz)
    show chgAt (x :: a) (y :: b) z.path = chgAt a b z.path
    rw [chgAt_left hx, chgAt_right (by rw [← hp]; exact hx)]
/-- all nodes of the first one, and those of the second one whose paths are new -/
def newB (a : List Nod) (n : Nod) : Bool := decide (treeFind a n.path = a.length)
def allN (a b : List Nod) : List Nod := a ++ b.filter (newB a)
theorem newB_iff {a : List Nod} {n : Nod} : newB a n = true ↔ ∀ x ∈ a, x.path ≠ n.path := by unfold newB; rw [decide_eq_true_eq, find_out]
theorem ordL_ne {l : List Nod} (h : OrdL l) : l.Pairwise fun x y => x.path ≠ y.path := h.imp fun h => pathLt_ne h
theorem isort_all {a b : List Nod} (ha : OrdL a) (hb : OrdL b) : isort (allN a b) = bothL a b := by
  refine sorted_ext (sorted_strict (isort_sorted _) ?_) (bothL_ord a b ha hb) fun x => ?_
  · have hn : (allN a b).Pairwise fun x y => x.path ≠ y.path := by
      unfold allN
      rw [List.pairwise_append]
      refine ⟨ordL_ne ha, (ordL_ne hb).filter _, fun x hx y hy => ?_⟩
      exact newB_iff.1 (List.mem_filter.1 hy).2 x hx
    exact ((isort_perm (allN a b)).pairwise_iff (fun h => Ne.symm h)).2 hn
  · rw [isort_mem, bothL_mem a b ha hb, allN, List.mem_append, List.mem_filter, newB_iff]
theorem diff_sorted {a b : List Nod} (ha : OrdL a) (hb : OrdL b) : (isort (allN a b)).flatMap (fun n => chgAt a b n.path) = diffL a b := by rw [isort_all ha hb, diff_both a b ha hb]
noncomputable def diffOf (a b : List Nod) : List Chg × Int := if ¬ treeFault a = 0 then ([], treeFault a) else if ¬ treeFault b = 0 then ([], treeFault b) else (diffL a b, 0)
theorem diffOf_a {a b : List Nod} (h : ¬ treeFault a = 0) : diffOf a b = ([], treeFault a) := by unfold diffOf; rw [if_pos h]
theorem diffOf_b {a b : List Nod} (h : treeFault a = 0) (h2 : ¬ treeFault b = 0) : diffOf a b = ([], treeFault b) := by unfold diffOf; rw [if_neg (by simpa using h), if_pos h2]
theorem diffOf_ok {a b : List Nod} (h : treeFault a = 0) (h2 : treeFault b = 0) : diffOf a b = (diffL a b, 0) := by unfold diffOf; rw [if_neg (by simpa using h), if_neg (by simpa using h2)]
theorem treeFault_ord {a : List Nod} (h : treeFault a = 0) : OrdL a := (treeP_iff.1 h).ord
theorem othN_len (x y : Nod) : (othN x y).length ≤ 1 := by unfold othN; split <;> simp
theorem diffL_len (a b : List Nod) : (diffL a b).length ≤ a.length + b.length := by
  refine merge_ind (motive := fun a b => (diffL a b).length ≤ a.length + b.length) ?_ ?_ ?_ ?_ ?_ a b
  · intro b; rw [diffL_nil]; simp
  · intro x a ih; rw [diffL_left]; simp at ih ⊢; omega
  · intro x a y b e ih; rw [diffL_lt e]; simp at ih ⊢; omega
  · intro x a y b e ih; rw [diffL_gt e]; simp at ih ⊢; omega
  · intro x a y b e ih; rw [diffL_eq e]; have := othN_len x y; simp at ih ⊢; omega
theorem diffOf_len (a b : List Nod) : (diffOf a b).1.length ≤ maxLen := by
  unfold maxLen
  by_cases h : treeFault a = 0
  · by_cases h2 : treeFault b = 0
    · rw [diffOf_ok h h2]; have h3 := diffL_len a b; have := (treeFault_all h).1; have := (treeFault_all h2).1; simp only; omega
    · rw [diffOf_b h h2]; simp
  · rw [diffOf_a h]; simp
/-- trees that are the same have no changes, and no others -/
theorem diffL_none (a b : List Nod) : diffL a b = [] ↔ a.map Nod.bare = b.map Nod.bare := by
  refine merge_ind (motive := fun a b => diffL a b = [] ↔ a.map Nod.bare = b.map Nod.bare) ?_ ?_ ?_ ?_ ?_ a b
  · intro b; rw [diffL_nil]; cases b <;> simp
  · intro x a ih; rw [diffL_left]; simp
  · intro x a y b e ih
    rw [diffL_lt e]
    refine ⟨fun h => (by cases h), fun h => ?_⟩
    simp only [List.map_cons, List.cons.injEq] at h
    exact absurd (bare_parts h.1).1 (pathLt_ne e)
  · intro x a y b e ih
    rw [diffL_gt e]
    refine ⟨fun h => (by cases h), fun h => ?_⟩
    simp only [List.map_cons, List.cons.injEq] at h
    exact absurd (bare_parts h.1).1 (pathLt_ne (lt_of_gt e)).symm
  · intro x a y b e ih
    rw [diffL_eq e, List.append_eq_nil_iff, ih, List.map_cons, List.map_cons, List.cons.injEq]
    unfold othN
    by_cases h : x.bare = y.bare <;> simp [h]
end Go.Creel
