/-
  A node put into a tree: plain words and laws. The order of paths is total.
-/
import Derived.Test.YtaffgndickdbiaaDoorTreeP
namespace Go.Creel
set_option linter.unusedVariables false
set_option linter.unusedSimpArgs false
open Go.RowKit
theorem cmpS_anti (x y : ByteArray) : cmpS y x = - cmpS x y := by
  rcases cmpS_cases x y with ⟨h1, h3⟩ | ⟨h1, h2, h3⟩ | ⟨h1, h2, h3⟩
  · rw [h3]
    have hlt := cmpS_neg.1 h3
    rcases cmpS_cases y x with ⟨g1, g3⟩ | ⟨g1, g2, g3⟩ | ⟨g1, g2, g3⟩
    · exact absurd (List.lt_trans hlt (cmpS_neg.1 g3)) (List.lt_irrefl _)
    · have := cmpS_zero.1 g3
      subst this
      exact absurd hlt (List.lt_irrefl _)
    · rw [g3]; rfl
  · have := cmpS_zero.1 h3
    subst this
    rw [h3]; rfl
  · rw [h3]
    rcases cmpS_cases y x with ⟨g1, g3⟩ | ⟨g1, g2, g3⟩ | ⟨g1, g2, g3⟩
    · rw [g3]
    · have := cmpS_zero.1 g3
      subst this
      rw [cmpS_self] at h3; cases h3
    · exfalso
      rw [Go.Proofs.bytesLess_eq] at h1 g1
      have e : x.toList = y.toList := List.le_antisymm (of_decide_eq_false g1) (of_decide_eq_false h1)
      rw [e] at h2; simp at h2
theorem ordP_anti : ∀ X Y : List ByteArray, ordP Y X = - ordP X Y
  | [], [] => rfl
  | [], _ :: _ => rfl
  | _ :: _, [] => rfl
  | x :: X, y :: Y => by
    rw [ordP_cons, ordP_cons, cmpS_anti x y]
    by_cases h : cmpS x y = 0
    · rw [if_pos h, if_pos (by omega)]; exact ordP_anti X Y
    · rw [if_neg h, if_neg (by omega)]
theorem ordP_zero : ∀ {X Y : List ByteArray}, ordP X Y = 0 → X = Y
  | [], [], _ => rfl
  | [], _ :: _, h => by cases h
  | _ :: _, [], h => by cases h
  | x :: X, y :: Y, h => by
    rw [ordP_cons] at h
    by_cases e : cmpS x y = 0
    · rw [if_pos e] at h
      rw [cmpS_zero.1 e, ordP_zero h]
    · rw [if_neg e] at h; exact absurd h e
/-- what a node's path is to another path -/
def ordTo (s : ByteArray) (x : Nod) : Int := ordP (pathParts x.path) (pathParts s)
theorem ordTo_range (s : ByteArray) (x : Nod) : ordTo s x = -1 ∨ ordTo s x = 0 ∨ ordTo s x = 1 := ordP_range _ _
/-- behind a node that is not ahead of a path, all are behind it -/
theorem ordTo_later {s : ByteArray} {x y : Nod} (h : PathLt x y) (hx : ¬ ordTo s x = -1) : ordTo s y = 1 := by
  unfold ordTo at hx ⊢
  unfold PathLt at h
  have hs : ordP (pathParts s) (pathParts y.path) = -1 := by
    rcases ordP_range (pathParts x.path) (pathParts s) with e | e | e
    · exact absurd e hx
    · rw [ordP_zero e] at h; exact h
    · have := ordP_anti (pathParts x.path) (pathParts s)
      exact ordP_tr (by omega) h
  have := ordP_anti (pathParts s) (pathParts y.path)
  omega
def isBefore (s : ByteArray) (x : Nod) : Bool := decide (ordTo s x = -1)
def isOther (s : ByteArray) (x : Nod) : Bool := decide (ordTo s x ≠ 0)
/-- how many nodes are ahead of a path -/
def posN (l : List Nod) (s : ByteArray) : Nat := (l.takeWhile (isBefore s)).length
def putL (l : List Nod) (n : Nod) : List Nod := l.takeWhile (isBefore n.path) ++ n :: (l.dropWhile (isBefore n.path)).filter (isOther n.path)
theorem posN_le (l : List Nod) (s : ByteArray) : posN l s ≤ l.length := by
  unfold posN
  have := congrArg List.length (List.takeWhile_append_dropWhile (p := isBefore s) (l := l))
  rw [List.length_append] at this
  omega
theorem take_pos (l : List Nod) (s : ByteArray) : l.take (posN l s) = l.takeWhile (isBefore s) := by
  unfold posN
  conv => lhs; arg 2; rw [← List.takeWhile_append_dropWhile (p := isBefore s) (l := l)]
  rw [List.take_left]
theorem drop_pos (l : List Nod) (s : ByteArray) : l.drop (posN l s) = l.dropWhile (isBefore s) := by
  unfold posN
  conv => lhs; arg 2; rw [← List.takeWhile_append_dropWhile (p := isBefore s) (l := l)]
  rw [List.drop_left]
/-- in an ordered list: ahead of the place all are ahead of the path; from it on none is -/
theorem pos_lt {l : List Nod} {s : ByteArray} {k : Nat} (h : k < posN l s) : ordTo s (nk l k) = -1 := by
  have hl := posN_le l s
  have hm : nk l k ∈ l.takeWhile (isBefore s) := by
    rw [← take_pos, nk_eq (by omega)]
    exact List.mem_take_iff_getElem.2 ⟨k, by omega, rfl⟩
  have := List.all_takeWhile (p := isBefore s) (l := l)
  exact of_decide_eq_true (List.all_eq_true.1 this _ hm)
theorem pos_at {l : List Nod} {s : ByteArray} (h : posN l s < l.length) : ¬ ordTo s (nk l (posN l s)) = -1 := by
  have e := drop_pos l s
  rw [List.drop_eq_getElem_cons h] at e
  have : isBefore s l[posN l s] = false := by
    have hne : l.dropWhile (isBefore s) ≠ [] := by rw [← e]; exact List.cons_ne_nil _ _
    have h1 := List.head_dropWhile_not (isBefore s) hne
    have h2 : (l.dropWhile (isBefore s)).head hne = l[posN l s] := by simp only [← e, List.head_cons]
    rw [h2] at h1
    simpa using h1
  rw [nk_eq h]
  exact of_decide_eq_false this
theorem pos_ge {l : List Nod} {s : ByteArray} (ho : l.Pairwise PathLt) {k : Nat} (h : posN l s < k) (hk : k < l.length) : ordTo s (nk l k) = 1 := by
  refine ordTo_later (x := nk l (posN l s)) ?_ (pos_at (by omega))
  rw [nk_eq hk, nk_eq (by omega)]
  exact List.pairwise_iff_getElem.1 ho _ _ (by omega) hk h
theorem pos_eq {l : List Nod} {s : ByteArray} {i : Nat} (hi : i ≤ l.length) (h1 : ∀ k, k < i → ordTo s (nk l k) = -1) (h2 : i < l.length → ¬ ordTo s (nk l i) = -1) : posN l s = i := by
  rcases Nat.lt_trichotomy (posN l s) i with h | h | h
  · exact absurd (h1 _ h) (pos_at (by omega))
  · exact h
  · exact absurd (pos_lt h) (h2 (by have := posN_le l s; omega))
/-- whether the path is there -/
def isAt (l : List Nod) (s : ByteArray) : Bool := decide (posN l s < l.length ∧ ordTo s (nk l (posN l s)) = 0)
theorem rest_put {l : List Nod} {s : ByteArray} (ho : l.Pairwise PathLt) : (l.dropWhile (isBefore s)).filter (isOther s) = l.drop (posN l s + (if isAt l s = true then 1 else 0)) := by
  rw [← drop_pos]
  have hgt : ∀ x ∈ l.drop (posN l s + 1), isOther s x = true := by
    intro x hx
    obtain ⟨k, hk, e⟩ := List.mem_iff_getElem.1 hx
    rw [List.getElem_drop] at e
    have hk' : posN l s + 1 + k < l.length := by simp at hk; omega
    have := pos_ge (s := s) ho (k := posN l s + 1 + k) (by omega) hk'
    rw [nk_eq hk', e] at this
    unfold isOther
    rw [this]; rfl
  by_cases hl : posN l s < l.length
  · rw [List.drop_eq_getElem_cons hl]
    have hn : nk l (posN l s) = l[posN l s] := nk_eq hl
    by_cases h0 : ordTo s (nk l (posN l s)) = 0
    · have ha : isAt l s = true := decide_eq_true ⟨hl, h0⟩
      rw [if_pos ha, List.filter_cons_of_neg (by unfold isOther; rw [← hn, h0]; simp), List.filter_eq_self.2 hgt]
    · have ha : isAt l s = false := decide_eq_false (fun h => h0 h.2)
      rw [if_neg (by rw [ha]; simp), List.filter_cons_of_pos (by unfold isOther; rw [← hn]; simpa using h0), List.filter_eq_self.2 hgt, ← List.drop_eq_getElem_cons hl]; rfl
  · rw [List.drop_eq_nil_of_le (by omega), List.drop_eq_nil_of_le (by omega)]; rfl
theorem putL_eq {l : List Nod} {n : Nod} (ho : l.Pairwise PathLt) : putL l n = l.take (posN l n.path) ++ n :: l.drop (posN l n.path + (if isAt l n.path = true then 1 else 0)) := by
  unfold putL
  rw [take_pos, rest_put ho]
theorem putL_len (l : List Nod) (n : Nod) : (putL l n).length ≤ l.length + 1 := by
  unfold putL
  have h1 := List.length_filter_le (isOther n.path) (l.dropWhile (isBefore n.path))
  have h2 := congrArg List.length (List.takeWhile_append_dropWhile (p := isBefore n.path) (l := l))
  rw [List.length_append] at h2
  rw [List.length_append, List.length_cons]
  omega
noncomputable def treePut (l : List Nod) (n : Nod) : List Nod × Int := if ¬ treeFault l = 0 then ([], treeFault l) else if ¬ treeFault (putL l n) = 0 then ([], treeFault (putL l n)) else (putL l n, 0)
theorem treePut_bad {l : List Nod} {n : Nod} (h : ¬ treeFault l = 0) : treePut l n = ([], treeFault l) := by unfold treePut; rw [if_pos h]
theorem treePut_new {l : List Nod} {n : Nod} (h : treeFault l = 0) (h2 : ¬ treeFault (putL l n) = 0) : treePut l n = ([], treeFault (putL l n)) := by unfold treePut; rw [if_neg (by simpa using h), if_pos h2]
theorem treePut_ok {l : List Nod} {n : Nod} (h : treeFault l = 0) (h2 : treeFault (putL l n) = 0) : treePut l n = (putL l n, 0) := by unfold treePut; rw [if_neg (by simpa using h), if_neg (by simpa using h2)]
theorem treePut_len (l : List Nod) (n : Nod) : (treePut l n).1.length ≤ maxLen := by
  unfold maxLen
  by_cases h : treeFault l = 0
  · by_cases h2 : treeFault (putL l n) = 0
    · rw [treePut_ok h h2]; have := (treeFault_all h2).1; simp only; omega
    · rw [treePut_new h h2]; simp
  · rw [treePut_bad h]; simp
theorem treeFind_map : ∀ {l m : List Nod} (s : ByteArray), l.map Nod.bare = m.map Nod.bare → treeFind l s = treeFind m s
  | [], [], _, _ => rfl
  | [], _ :: _, _, h => by simp at h
  | _ :: _, [], _, h => by simp at h
  | x :: l, y :: m, s, h => by
    simp only [List.map_cons, List.cons.injEq] at h
    unfold treeFind
    rw [(bare_parts h.1).1, treeFind_map s h.2]
theorem bare_at' {l m : List Nod} (h : l.map Nod.bare = m.map Nod.bare) (k : Nat) : (nk l k).bare = (nk m k).bare := by
  have hl : l.length = m.length := by simpa using congrArg List.length h
  by_cases hk : k < l.length
  · exact bare_nk h hk
  · unfold nk
    rw [List.getD_eq_getElem?_getD, List.getD_eq_getElem?_getD, List.getElem?_eq_none (by omega), List.getElem?_eq_none (by omega)]
theorem stepF_bare {l m : List Nod} (h : l.map Nod.bare = m.map Nod.bare) (i : Nat) : stepF l i = stepF m i := by
  have hb := bare_at' h
  have hn : ∀ k, nodFault (nk l k) = nodFault (nk m k) := fun k => by
    have : nodFault (nk l k).bare = nodFault (nk m k).bare := by rw [hb k]
    exact this
  have hp : ∀ k, (nk l k).path = (nk m k).path := fun k => (bare_parts (hb k)).1
  have hk : ∀ k, (nk l k).kind = (nk m k).kind := fun k => (bare_parts (hb k)).2.1
  have hs : ∀ k, (nk l k).same = (nk m k).same := fun k => (bare_parts (hb k)).2.2.1
  have hlk : ∀ j k, likeB (nk l j) (nk l k) = likeB (nk m j) (nk m k) := fun j k => by
    have : likeB (nk l j).bare (nk l k).bare = likeB (nk m j).bare (nk m k).bare := by rw [hb j, hb k]
    exact this
  have ht : ∀ k s, treeFind (l.take k) s = treeFind (m.take k) s := fun k s => treeFind_map s (by rw [List.map_take, List.map_take, h])
  unfold stepF
  simp only [hn, hp, hk, hs, hlk, ht]
theorem treeFault_eq {l m : List Nod} (h : l.map Nod.bare = m.map Nod.bare) : treeFault l = treeFault m := by
  have hl : l.length = m.length := by simpa using congrArg List.length h
  by_cases h40 : 40 < l.length
  · rw [treeFault_many h40, treeFault_many (by omega)]
  · by_cases hz : ∀ j, j < l.length → stepF l j = 0
    · rw [treeFault_ok (by omega) hz, treeFault_ok (by omega) (fun j hj => by rw [← stepF_bare h]; exact hz j (by omega))]
    · have : ∃ k, k < l.length ∧ stepF l k ≠ 0 ∧ ∀ j, j < k → stepF l j = 0 := by
        have hex : ∃ k, k < l.length ∧ stepF l k ≠ 0 := by
          refine Classical.byContradiction fun hne => hz fun j hj => Classical.byContradiction fun e => hne ⟨j, hj, e⟩
        obtain ⟨k, hk⟩ := hex
        have key : ∀ n k, k ≤ n → (k < l.length ∧ stepF l k ≠ 0) → ∃ k, k < l.length ∧ stepF l k ≠ 0 ∧ ∀ j, j < k → stepF l j = 0 := by
          intro n
          induction n with
          | zero => intro k hk h; exact ⟨k, h.1, h.2, fun j hj => by omega⟩
          | succ n ih =>
            intro k hk h
            by_cases hall : ∀ j, j < k → stepF l j = 0
            · exact ⟨k, h.1, h.2, hall⟩
            · obtain ⟨j, hj⟩ : ∃ j, j < k ∧ stepF l j ≠ 0 := Classical.byContradiction fun hne => hall fun j hj => Classical.byContradiction fun e => hne ⟨j, hj, e⟩
              exact ih j (by omega) ⟨by omega, hj.2⟩
        exact key k k (Nat.le_refl _) hk
      obtain ⟨k, h1, h2, h3⟩ := this
      rw [treeFault_at (by omega) h1 h3 rfl h2, treeFault_at (l := m) (k := k) (by omega) (by omega) (fun j hj => by rw [← stepF_bare h]; exact h3 j hj) rfl (by rw [← stepF_bare h]; exact h2), stepF_bare h]
end Go.Creel
