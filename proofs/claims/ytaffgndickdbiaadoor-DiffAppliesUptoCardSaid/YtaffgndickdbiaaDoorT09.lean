/-
  Texts: Ents, TreeP, PutSpec, SortSpec, DiffSpec, NodsCut, ChgsOwn.
-/
import Derived.Test.YtaffgndickdbiaaDoorT08
import Derived.Sort.Walk0
set_option linter.unusedVariables false
set_option linter.unusedSimpArgs false
set_option linter.unusedSectionVars false
namespace Go.Creel
open Go.RowKit
def entZ : Ent := ⟨.empty, 0, .empty, ⟨0, 0, 0, .empty, .empty, 0, 0⟩, none, 0, []⟩
def ek (l : List Ent) (k : Nat) : Ent := l.getD k entZ
theorem ek_take {l : List Ent} {i j : Nat} (h : j < i) : ek (l.take i) j = ek l j := by
  simp [ek, List.getD_eq_getElem?_getD, h]
def EntAt (w : World) (b o : Nat) (x : Ent) : Prop := w.cell? ⟨b, o, none⟩ = some (.string x.path) ∧ w.cell? ⟨b, o + 1, none⟩ = some (.int .i64 x.kind) ∧ w.cell? ⟨b, o + 2, none⟩ = some (.string x.target) ∧ w.cell? ⟨b, o + 3, none⟩ = some (.int .i64 x.mt.mode) ∧ w.cell? ⟨b, o + 4, none⟩ = some (.int .i64 x.mt.uid) ∧ w.cell? ⟨b, o + 5, none⟩ = some (.int .i64 x.mt.gid) ∧ w.cell? ⟨b, o + 6, none⟩ = some (.string x.mt.user) ∧ w.cell? ⟨b, o + 7, none⟩ = some (.string x.mt.group) ∧ w.cell? ⟨b, o + 8, none⟩ = some (.int .i64 x.mt.second) ∧ w.cell? ⟨b, o + 9, none⟩ = some (.int .i64 x.mt.nano) ∧ w.cell? ⟨b, o + 10, none⟩ = some (.slice x.da x.data.length x.dcap)
def EntsAt (w : World) (b off : Nat) (l : List Ent) : Prop := ∀ i, i < l.length → EntAt w b (off + i * 11) (ek l i)
theorem EntAt.lt {w : World} {b o : Nat} {x : Ent} (h : EntAt w b o x) : b < w.heap.size := World.block_lt_of_cell? w _ h.1
theorem EntAt.below {w w' : World} {b o : Nat} {x : Ent} (h : EntAt w b o x) (hb : Below w.heap.size w w') : EntAt w' b o x := by
  have hlt := h.lt
  obtain ⟨h0, h1, h2, h3, h4, h5, h6, h7, h8, h9, h10⟩ := h
  exact ⟨(hb.cell (p := ⟨b, o, none⟩) hlt).trans h0, (hb.cell (p := ⟨b, o + 1, none⟩) hlt).trans h1, (hb.cell (p := ⟨b, o + 2, none⟩) hlt).trans h2, (hb.cell (p := ⟨b, o + 3, none⟩) hlt).trans h3, (hb.cell (p := ⟨b, o + 4, none⟩) hlt).trans h4, (hb.cell (p := ⟨b, o + 5, none⟩) hlt).trans h5, (hb.cell (p := ⟨b, o + 6, none⟩) hlt).trans h6, (hb.cell (p := ⟨b, o + 7, none⟩) hlt).trans h7, (hb.cell (p := ⟨b, o + 8, none⟩) hlt).trans h8, (hb.cell (p := ⟨b, o + 9, none⟩) hlt).trans h9, (hb.cell (p := ⟨b, o + 10, none⟩) hlt).trans h10⟩
theorem EntAt.zero {w : World} {b : Nat} {x : Ent} (h : EntAt w b 0 x) : w.cell? ⟨b, 0, none⟩ = some (.string x.path) ∧ w.cell? ⟨b, 1, none⟩ = some (.int .i64 x.kind) ∧ w.cell? ⟨b, 2, none⟩ = some (.string x.target) ∧ w.cell? ⟨b, 3, none⟩ = some (.int .i64 x.mt.mode) ∧ w.cell? ⟨b, 4, none⟩ = some (.int .i64 x.mt.uid) ∧ w.cell? ⟨b, 5, none⟩ = some (.int .i64 x.mt.gid) ∧ w.cell? ⟨b, 6, none⟩ = some (.string x.mt.user) ∧ w.cell? ⟨b, 7, none⟩ = some (.string x.mt.group) ∧ w.cell? ⟨b, 8, none⟩ = some (.int .i64 x.mt.second) ∧ w.cell? ⟨b, 9, none⟩ = some (.int .i64 x.mt.nano) ∧ w.cell? ⟨b, 10, none⟩ = some (.slice x.da x.data.length x.dcap) := h
theorem EntsAt.below {w w' : World} {b off : Nat} {l : List Ent} (h : EntsAt w b off l) (hb : Below w.heap.size w w') : EntsAt w' b off l := fun i hi => (h i hi).below hb
theorem EntsAt.take {w : World} {b off : Nat} {l : List Ent} (h : EntsAt w b off l) (i : Nat) : EntsAt w b off (l.take i) := by
  intro j hj
  have hj' : j < i ∧ j < l.length := by simp at hj; omega
  rw [ek_take hj'.1]
  exact h j hj'.2
theorem Ent.Ok.below {N : Nat} {w w' : World} {x : Ent} (h : x.Ok N w) (hb : Below w.heap.size w w') : x.Ok N w' := ⟨h.path, h.kind, h.target, h.mt, h.data.below (fun _ _ h => h) hb⟩
theorem cmpS_zero {x y : ByteArray} : cmpS x y = 0 ↔ x = y := by
  rcases cmpS_cases x y with ⟨h1, h3⟩ | ⟨h1, h2, h3⟩ | ⟨h1, h2, h3⟩
  · rw [h3]
    refine ⟨fun e => (by cases e), fun e => ?_⟩
    subst e
    rw [Go.Proofs.bytesLess_eq] at h1
    exact absurd (of_decide_eq_true h1) (List.lt_irrefl _)
  · exact ⟨fun _ => toList_inj (by simpa using h2), fun _ => h3⟩
  · rw [h3]
    refine ⟨fun e => (by cases e), fun e => ?_⟩
    subst e
    simp at h2
theorem cmpS_neg {x y : ByteArray} : cmpS x y = -1 ↔ x.toList < y.toList := by
  rcases cmpS_cases x y with ⟨h1, h3⟩ | ⟨h1, h2, h3⟩ | ⟨h1, h2, h3⟩
  · rw [Go.Proofs.bytesLess_eq] at h1
    exact ⟨fun _ => of_decide_eq_true h1, fun _ => h3⟩
  · rw [h3]
    rw [Go.Proofs.bytesLess_eq] at h1
    exact ⟨fun e => (by cases e), fun e => absurd e (of_decide_eq_false h1)⟩
  · rw [h3]
    rw [Go.Proofs.bytesLess_eq] at h1
    exact ⟨fun e => (by cases e), fun e => absurd e (of_decide_eq_false h1)⟩
theorem cmpS_tr {x y z : ByteArray} (h1 : cmpS x y = -1) (h2 : cmpS y z = -1) : cmpS x z = -1 := cmpS_neg.2 (List.lt_trans (cmpS_neg.1 h1) (cmpS_neg.1 h2))
theorem cmpS_self (x : ByteArray) : cmpS x x = 0 := cmpS_zero.2 rfl
theorem ordP_self : ∀ X : List ByteArray, ordP X X = 0
  | [] => rfl
  | x :: X => by unfold ordP; rw [if_pos (cmpS_self x)]; exact ordP_self X
theorem ordP_cons {x y : ByteArray} {X Y : List ByteArray} : ordP (x :: X) (y :: Y) = if cmpS x y = 0 then ordP X Y else cmpS x y := rfl
theorem ordP_tr : ∀ {X Y Z : List ByteArray}, ordP X Y = -1 → ordP Y Z = -1 → ordP X Z = -1
  | [], [], _, h1, _ => by cases h1
  | [], _ :: _, [], _, h2 => by cases h2
  | [], _ :: _, _ :: _, _, _ => rfl
  | _ :: _, [], _, h1, _ => by cases h1
  | _ :: _, _ :: _, [], _, h2 => by cases h2
  | x :: X, y :: Y, z :: Z, h1, h2 => by
    rw [ordP_cons] at h1 h2 ⊢
    by_cases e1 : cmpS x y = 0
    · rw [if_pos e1] at h1
      obtain rfl := cmpS_zero.1 e1
      by_cases e2 : cmpS x z = 0
      · rw [if_pos e2] at h2 ⊢
        exact ordP_tr h1 h2
      · rw [if_neg e2] at h2 ⊢
        exact h2
    · rw [if_neg e1] at h1
      by_cases e2 : cmpS y z = 0
      · obtain rfl := cmpS_zero.1 e2
        rw [if_neg e1]
        exact h1
      · rw [if_neg e2] at h2
        have := cmpS_tr h1 h2
        rw [if_neg (by rw [this]; decide)]
        exact this
open Go.RowKit
theorem tree_steps {l : List Nod} (h : treeFault l = 0) : ∀ k, k < l.length → stepF l k = 0 := by
  have hl := (treeFault_all h).1
  have key : ∀ k, k ≤ l.length → ∀ j, j < k → stepF l j = 0 := by
    intro k
    induction k with
    | zero => intro _ j hj; omega
    | succ k ih =>
      intro hk j hj
      by_cases e : j = k
      · subst e
        refine Classical.byContradiction fun hne => ?_
        exact hne ((treeFault_at hl (by omega) (ih (by omega)) rfl hne).symm.trans h)
      · exact ih (by omega) j (by omega)
  exact key _ (Nat.le_refl _)
theorem step_ups {l : List Nod} {i : Nat} (h : stepF l i = 0) : OrdOk l i ∧ UpOk l i := by
  have h0 := (stepF_zero h).1
  have h1 : OrdOk l i := fun hi => Classical.byContradiction fun e => by
    have := stepF_ord h0 hi e
    rw [h] at this; cases this
  refine ⟨h1, fun hu => Classical.byContradiction fun e => ?_⟩
  have := stepF_up h0 h1 hu e
  rw [h] at this; cases this
abbrev PathLt (x y : Nod) : Prop := ordP (pathParts x.path) (pathParts y.path) = -1
abbrev LikeOk (x y : Nod) : Prop := y.same ≠ 0 → x.same = y.same → likeB x y = true
structure TreeP (l : List Nod) : Prop where
  few : l.length ≤ 40
  nod : ∀ x ∈ l, nodFault x = 0
  ord : l.Pairwise PathLt
  ups : ∀ a x b, l = a ++ x :: b → (pathUp x.path).size ≠ 0 → ∃ y ∈ a, y.path = pathUp x.path ∧ y.kind = 2
  like : l.Pairwise LikeOk
theorem nk_mem {l : List Nod} {k : Nat} (h : k < l.length) : nk l k ∈ l := by rw [nk_eq h]; exact List.getElem_mem _
theorem nk_mid (a : List Nod) (x : Nod) (b : List Nod) : nk (a ++ x :: b) a.length = x := by
  rw [nk_eq (by simp)]; simp
theorem pathLt_trans {x y z : Nod} (h1 : PathLt x y) (h2 : PathLt y z) : PathLt x z := ordP_tr h1 h2
theorem TreeP.of {l : List Nod} (h : treeFault l = 0) : TreeP l := by
  have hs := tree_steps h
  obtain ⟨h40, hn⟩ := treeFault_all h
  refine ⟨h40, fun x hx => ?_, ?_, ?_, ?_⟩
  · obtain ⟨i, hi, e⟩ := List.mem_iff_getElem.1 hx
    rw [← e, ← nk_eq hi]; exact hn i hi
  · rw [List.pairwise_iff_getElem]
    have key : ∀ d i, i + d + 1 < l.length → PathLt (nk l i) (nk l (i + d + 1)) := by
      intro d
      induction d with
      | zero => intro i hi; have := (step_ups (hs (i + 1) hi)).1 (by omega); simpa using this
      | succ d ih =>
        intro i hi
        have h1 := ih i (by omega)
        have h2 := (step_ups (hs (i + d + 2) (by omega))).1 (by omega)
        exact pathLt_trans h1 (by simpa [Nat.add_assoc] using h2)
    intro i j hi hj hij
    have := key (j - i - 1) i (by omega)
    rw [show i + (j - i - 1) + 1 = j by omega, nk_eq hi, nk_eq hj] at this
    exact this
  · intro a x b e hu
    have hlen : a.length < l.length := by rw [e]; simp
    have hup := (step_ups (hs a.length hlen)).2
    unfold UpOk at hup
    rw [e, nk_mid, List.take_left] at hup
    obtain ⟨h1, h2⟩ := hup hu
    have hp := treeFind_lt h1
    refine ⟨nk a (treeFind a (pathUp x.path)), nk_mem h1, hp, ?_⟩
    rw [nk_eq h1]
    rw [nk_eq (by simp; omega), List.getElem_append_left h1] at h2
    exact h2
  · rw [List.pairwise_iff_getElem]
    intro i j hi hj hij h1 h2
    have := (stepF_zero (hs j hj)).2
    rw [nk_eq hj] at this
    have := this h1 i hij (by rw [nk_eq hi]; exact h2)
    rw [nk_eq hi] at this
    exact this
theorem TreeP.filter {l : List Nod} (h : TreeP l) {p : Nod → Bool} (hp : ∀ x y, x ∈ l → y ∈ l → p x = true → y.path = pathUp x.path → (pathUp x.path).size ≠ 0 → p y = true) : TreeP (l.filter p) := by
  refine ⟨Nat.le_trans (List.length_filter_le _ _) h.few, fun x hx => h.nod x (List.mem_filter.1 hx).1, h.ord.filter _, ?_, h.like.filter _⟩
  intro a x b e hu
  obtain ⟨l1, l2, e0, e1, e2⟩ := List.filter_eq_append_iff.1 e
  obtain ⟨m1, m2, e3, e4, e5, e6⟩ := List.filter_eq_cons_iff.1 e2
  obtain ⟨y, hy, hyp, hyk⟩ := h.ups (l1 ++ m1) x m2 (by rw [e0, e3, List.append_assoc]) hu
  have hyl : y ∈ l := by rw [e0, e3]; rcases List.mem_append.1 hy with h1 | h1 <;> simp [h1]
  have hxl : x ∈ l := by rw [e0, e3]; simp
  have hpy := hp x y hxl hyl e5 hyp hu
  refine ⟨y, ?_, hyp, hyk⟩
  rw [← e1]
  rcases List.mem_append.1 hy with h1 | h1
  · exact List.mem_filter.2 ⟨h1, hpy⟩
  · exact absurd hpy (e4 y h1)
open Go.RowKit
theorem cmpS_anti (x y : ByteArray) : cmpS y x = - cmpS x y := by
  rcases cmpS_cases x y with ⟨h1, h3⟩ | ⟨h1, h2, h3⟩ | ⟨h1, h2, h3⟩
  · rw [h3]
    have hlt := cmpS_neg.1 h3
    rcases cmpS_cases y x with ⟨g1, g3⟩ | ⟨g1, g2, g3⟩ | ⟨g1, g2, g3⟩
    · exact absurd (List.lt_trans hlt (cmpS_neg.1 g3)) (List.lt_irrefl _)
    · have := cmpS_zero.1 g3
      subst this
      exact absurd hlt (List.lt_irrefl _)
    · rw [g3]; rfl
  · have := cmpS_zero.1 h3
    subst this
    rw [h3]; rfl
  · rw [h3]
    rcases cmpS_cases y x with ⟨g1, g3⟩ | ⟨g1, g2, g3⟩ | ⟨g1, g2, g3⟩
    · rw [g3]
    · have := cmpS_zero.1 g3
      subst this
      rw [cmpS_self] at h3; cases h3
    · exfalso
      rw [Go.Proofs.bytesLess_eq] at h1 g1
      have e : x.toList = y.toList := List.le_antisymm (of_decide_eq_false g1) (of_decide_eq_false h1)
      rw [e] at h2; simp at h2
theorem ordP_anti : ∀ X Y : List ByteArray, ordP Y X = - ordP X Y
  | [], [] => rfl
  | [], _ :: _ => rfl
  | _ :: _, [] => rfl
  | x :: X, y :: Y => by
    rw [ordP_cons, ordP_cons, cmpS_anti x y]
    by_cases h : cmpS x y = 0
    · rw [if_pos h, if_pos (by omega)]; exact ordP_anti X Y
    · rw [if_neg h, if_neg (by omega)]
theorem ordP_zero : ∀ {X Y : List ByteArray}, ordP X Y = 0 → X = Y
  | [], [], _ => rfl
  | [], _ :: _, h => by cases h
  | _ :: _, [], h => by cases h
  | x :: X, y :: Y, h => by
    rw [ordP_cons] at h
    by_cases e : cmpS x y = 0
    · rw [if_pos e] at h
      rw [cmpS_zero.1 e, ordP_zero h]
    · rw [if_neg e] at h; exact absurd h e
theorem treeFind_map : ∀ {l m : List Nod} (s : ByteArray), l.map Nod.bare = m.map Nod.bare → treeFind l s = treeFind m s
  | [], [], _, _ => rfl
  | [], _ :: _, _, h => by simp at h
  | _ :: _, [], _, h => by simp at h
  | x :: l, y :: m, s, h => by
    simp only [List.map_cons, List.cons.injEq] at h
    unfold treeFind
    rw [(bare_parts h.1).1, treeFind_map s h.2]
theorem bare_at' {l m : List Nod} (h : l.map Nod.bare = m.map Nod.bare) (k : Nat) : (nk l k).bare = (nk m k).bare := by
  have hl : l.length = m.length := by simpa using congrArg List.length h
  by_cases hk : k < l.length
  · exact bare_nk h hk
  · unfold nk
    rw [List.getD_eq_getElem?_getD, List.getD_eq_getElem?_getD, List.getElem?_eq_none (by omega), List.getElem?_eq_none (by omega)]
theorem stepF_bare {l m : List Nod} (h : l.map Nod.bare = m.map Nod.bare) (i : Nat) : stepF l i = stepF m i := by
  have hb := bare_at' h
  have hn : ∀ k, nodFault (nk l k) = nodFault (nk m k) := fun k => by
    have : nodFault (nk l k).bare = nodFault (nk m k).bare := by rw [hb k]
    exact this
  have hp : ∀ k, (nk l k).path = (nk m k).path := fun k => (bare_parts (hb k)).1
  have hk : ∀ k, (nk l k).kind = (nk m k).kind := fun k => (bare_parts (hb k)).2.1
  have hs : ∀ k, (nk l k).same = (nk m k).same := fun k => (bare_parts (hb k)).2.2.1
  have hlk : ∀ j k, likeB (nk l j) (nk l k) = likeB (nk m j) (nk m k) := fun j k => by
    have : likeB (nk l j).bare (nk l k).bare = likeB (nk m j).bare (nk m k).bare := by rw [hb j, hb k]
    exact this
  have ht : ∀ k s, treeFind (l.take k) s = treeFind (m.take k) s := fun k s => treeFind_map s (by rw [List.map_take, List.map_take, h])
  unfold stepF
  simp only [hn, hp, hk, hs, hlk, ht]
theorem treeFault_eq {l m : List Nod} (h : l.map Nod.bare = m.map Nod.bare) : treeFault l = treeFault m := by
  have hl : l.length = m.length := by simpa using congrArg List.length h
  by_cases h40 : 40 < l.length
  · rw [treeFault_many h40, treeFault_many (by omega)]
  · by_cases hz : ∀ j, j < l.length → stepF l j = 0
    · rw [treeFault_ok (by omega) hz, treeFault_ok (by omega) (fun j hj => by rw [← stepF_bare h]; exact hz j (by omega))]
    · have : ∃ k, k < l.length ∧ stepF l k ≠ 0 ∧ ∀ j, j < k → stepF l j = 0 := by
        have hex : ∃ k, k < l.length ∧ stepF l k ≠ 0 := by
          refine Classical.byContradiction fun hne => hz fun j hj => Classical.byContradiction fun e => hne ⟨j, hj, e⟩
        obtain ⟨k, hk⟩ := hex
        have key : ∀ n k, k ≤ n → (k < l.length ∧ stepF l k ≠ 0) → ∃ k, k < l.length ∧ stepF l k ≠ 0 ∧ ∀ j, j < k → stepF l j = 0 := by
          intro n
          induction n with
          | zero => intro k hk h; exact ⟨k, h.1, h.2, fun j hj => by omega⟩
          | succ n ih =>
            intro k hk h
            by_cases hall : ∀ j, j < k → stepF l j = 0
            · exact ⟨k, h.1, h.2, hall⟩
            · obtain ⟨j, hj⟩ : ∃ j, j < k ∧ stepF l j ≠ 0 := Classical.byContradiction fun hne => hall fun j hj => Classical.byContradiction fun e => hne ⟨j, hj, e⟩
              exact ih j (by omega) ⟨by omega, hj.2⟩
        exact key k k (Nat.le_refl _) hk
      obtain ⟨k, h1, h2, h3⟩ := this
      rw [treeFault_at (by omega) h1 h3 rfl h2, treeFault_at (l := m) (k := k) (by omega) (by omega) (fun j hj => by rw [← stepF_bare h]; exact h3 j hj) rfl (by rw [← stepF_bare h]; exact h2), stepF_bare h]
open Go.RowKit
theorem pathParts_inj {a b : ByteArray} (h : pathParts a = pathParts b) : a = b := by
  have key : ∀ s : ByteArray, s.data.toList = joinL ((pathParts s).map fun p => p.data.toList) := by
    intro s
    unfold pathParts
    by_cases h0 : s.size = 0
    · rw [if_pos h0]
      have : s.data.toList = [] := List.eq_nil_of_length_eq_zero (by rw [← Lib.size_eq]; exact h0)
      rw [this]; rfl
    · rw [if_neg h0, partsS, List.map_map]
      have : (fun p : ByteArray => p.data.toList) ∘ ofL = id := by funext x; simp [ofL_data]
      rw [this, List.map_id, joinL_parts]
  exact ext_bytes (by rw [key a, key b, h])
def ordN (x y : Nod) : Int := ordP (pathParts x.path) (pathParts y.path)
theorem ordN_range (x y : Nod) : ordN x y = -1 ∨ ordN x y = 0 ∨ ordN x y = 1 := ordP_rangeT _ _
theorem ordN_anti (x y : Nod) : ordN y x = - ordN x y := ordP_anti _ _
theorem ordN_path {x y : Nod} (h : ordN x y = 0) : x.path = y.path := pathParts_inj (ordP_zero h)
theorem ordN_self {x y : Nod} (h : x.path = y.path) : ordN x y = 0 := by unfold ordN; rw [h, ordP_self]
theorem ordN_le_trans {x y z : Nod} (h1 : ordN x y ≤ 0) (h2 : ordN y z ≤ 0) : ordN x z ≤ 0 := by
  rcases ordN_range x y with a | a | a
  · rcases ordN_range y z with b | b | b
    · have : ordN x z = -1 := ordP_tr a b
      omega
    · unfold ordN at a ⊢; rw [← ordN_path b]; omega
    · omega
  · unfold ordN at h2 ⊢; rw [ordN_path a]; exact h2
  · omega
abbrev PathLe (x y : Nod) : Prop := ordN x y ≤ 0
def leN (n x : Nod) : Bool := decide (ordN x n ≤ 0)
def insN (out : List Nod) (n : Nod) : List Nod := out.takeWhile (leN n) ++ n :: out.dropWhile (leN n)
def isort (l : List Nod) : List Nod := l.foldl insN []
theorem insN_perm (out : List Nod) (n : Nod) : (insN out n).Perm (n :: out) := by
  unfold insN
  refine List.perm_middle.trans ?_
  rw [List.takeWhile_append_dropWhile]
theorem insN_len (out : List Nod) (n : Nod) : (insN out n).length = out.length + 1 := by rw [(insN_perm out n).length_eq]; rfl
theorem insN_mem {out : List Nod} {n x : Nod} : x ∈ insN out n ↔ x = n ∨ x ∈ out := by rw [(insN_perm out n).mem_iff, List.mem_cons]
theorem foldl_mem {x : Nod} : ∀ {l acc : List Nod}, x ∈ l.foldl insN acc ↔ x ∈ acc ∨ x ∈ l
  | [], acc => by simp
  | n :: l, acc => by
    rw [List.foldl_cons, foldl_mem, insN_mem, List.mem_cons]
    constructor
    · rintro ((h | h) | h)
      · exact .inr (.inl h)
      · exact .inl h
      · exact .inr (.inr h)
    · rintro (h | h | h)
      · exact .inl (.inr h)
      · exact .inl (.inl h)
      · exact .inr h
theorem isort_mem {x : Nod} {l : List Nod} : x ∈ isort l ↔ x ∈ l := by unfold isort; rw [foldl_mem]; simp
theorem foldl_len : ∀ (l acc : List Nod), (l.foldl insN acc).length = acc.length + l.length
  | [], acc => by simp
  | n :: l, acc => by rw [List.foldl_cons, foldl_len, insN_len, List.length_cons]; omega
theorem isort_len (l : List Nod) : (isort l).length = l.length := by unfold isort; rw [foldl_len]; simp
theorem isort_take {l : List Nod} {k : Nat} (hk : k < l.length) : isort (l.take (k + 1)) = insN (isort (l.take k)) (nk l k) := by
  unfold isort
  rw [take_nk hk, List.foldl_append]; rfl
theorem insN_sorted {out : List Nod} {n : Nod} (h : out.Pairwise PathLe) : (insN out n).Pairwise PathLe := by
  unfold insN
  have hs : (out.takeWhile (leN n) ++ out.dropWhile (leN n)).Pairwise PathLe := by rw [List.takeWhile_append_dropWhile]; exact h
  rw [List.pairwise_append] at hs ⊢
  obtain ⟨h1, h2, h3⟩ := hs
  have hle : ∀ x ∈ out.takeWhile (leN n), ordN x n ≤ 0 := fun x hx => by
    have e := List.all_eq_true.1 (List.all_takeWhile (p := leN n) (l := out)) x hx
    exact of_decide_eq_true e
  have hgt : ∀ x ∈ out.dropWhile (leN n), ordN n x ≤ 0 := by
    cases hd : out.dropWhile (leN n) with
    | nil => intro x hx; cases hx
    | cons y r =>
      have hy : leN n y = false := by
        have hne : out.dropWhile (leN n) ≠ [] := by rw [hd]; exact List.cons_ne_nil _ _
        have e := List.head_dropWhile_not (leN n) hne
        simpa [hd] using e
      have hyn : ¬ ordN y n ≤ 0 := of_decide_eq_false hy
      have hny : ordN n y ≤ 0 := by have := ordN_anti y n; omega
      intro x hx
      rcases List.mem_cons.1 hx with rfl | hx
      · exact hny
      · rw [hd] at h2
        exact ordN_le_trans hny ((List.pairwise_cons.1 h2).1 x hx)
  refine ⟨h1, List.pairwise_cons.2 ⟨hgt, h2⟩, fun a ha b hb => ?_⟩
  rcases List.mem_cons.1 hb with rfl | hb
  · exact hle a ha
  · exact h3 a ha b hb
theorem foldl_sorted : ∀ {l acc : List Nod}, acc.Pairwise PathLe → (l.foldl insN acc).Pairwise PathLe
  | [], _, h => h
  | n :: l, acc, h => by rw [List.foldl_cons]; exact foldl_sorted (insN_sorted h)
theorem isort_sorted (l : List Nod) : (isort l).Pairwise PathLe := foldl_sorted List.Pairwise.nil
theorem ins_at {out : List Nod} {n : Nod} {k : Nat} (ho : out.Pairwise PathLe) (hk : k ≤ out.length) (h1 : ∀ j, k ≤ j → j < out.length → 0 < ordN (nk out j) n) (h2 : 0 < k → ordN (nk out (k - 1)) n ≤ 0) : insN out n = out.take k ++ n :: out.drop k := by
  have hall : ∀ x ∈ out.take k, leN n x = true := by
    intro x hx
    obtain ⟨j, hj, e⟩ := List.mem_take_iff_getElem.1 hx
    have hjk : j < k := by omega
    have h3 := h2 (by omega)
    refine decide_eq_true ?_
    rw [← e]
    by_cases hjl : j = k - 1
    · subst hjl; rw [← nk_eq (by omega)]; exact h3
    · refine ordN_le_trans ?_ h3
      rw [nk_eq (by omega)]
      exact List.pairwise_iff_getElem.1 ho j (k - 1) (by omega) (by omega) (by omega)
  have htw : out.takeWhile (leN n) = out.take k := by
    conv => lhs; rw [← List.take_append_drop k out]
    rw [List.takeWhile_append_of_pos hall]
    have : (out.drop k).takeWhile (leN n) = [] := by
      cases hd : out.drop k with
      | nil => rfl
      | cons y r =>
        have hlt : k < out.length := by
          rcases Nat.lt_or_ge k out.length with h | h
          · exact h
          · rw [List.drop_eq_nil_of_le h] at hd; cases hd
        rw [List.drop_eq_getElem_cons hlt] at hd
        have hy := h1 k (Nat.le_refl _) hlt
        rw [nk_eq hlt] at hy
        have e : y = out[k] := by cases hd; rfl
        rw [List.takeWhile_cons, e]
        have : leN n out[k] = false := decide_eq_false (by omega)
        rw [this]; rfl
    rw [this, List.append_nil]
  have hdw : out.dropWhile (leN n) = out.drop k := by
    have e := List.takeWhile_append_dropWhile (p := leN n) (l := out)
    rw [htw] at e
    exact List.append_cancel_left (e.trans (List.take_append_drop k out).symm)
  unfold insN
  rw [htw, hdw]
open Go.RowKit
structure Chg where
  kind : Int
  node : Nod
def Chg.bare (c : Chg) : Chg := ⟨c.kind, c.node.bare⟩
open Go.RowKit
theorem nods_take {w : World} {a : Option Addr} {n cap i : Nat} {l : List Nod} (h : SliceC maxLen 12 (NodC maxLen) w [.slice a n cap] l) (hi : i ≤ l.length) : SliceC maxLen 12 (NodC maxLen) w [.slice a i cap] (l.take i) := by
  obtain ⟨a', cap', hv, h1, h2, h3, h4, h5⟩ := h
  simp only [List.cons.injEq, Value.slice.injEq, and_true] at hv
  obtain ⟨rfl, rfl, rfl⟩ := hv
  have hl : (l.take i).length = i := by rw [List.length_take]; omega
  refine ⟨a, cap, by rw [hl], by omega, h2, by omega, h4, fun hp => ?_⟩
  obtain ⟨b, off, e, hc⟩ := h5 (by omega)
  refine ⟨b, off, e, fun k hk => ?_⟩
  obtain ⟨c, hcl, hcc, hE⟩ := hc k (by omega)
  exact ⟨c, hcl, hcc, by rw [List.getElem_take]; exact hE⟩
theorem nods_drop {w : World} {a : Option Addr} {n cap i : Nat} {l : List Nod} (h : SliceC maxLen 12 (NodC maxLen) w [.slice a n cap] l) (hi : i ≤ l.length) : SliceC maxLen 12 (NodC maxLen) w [sliced a i n cap 12] (l.drop i) := by
  obtain ⟨a', cap', hv, h1, h2, h3, h4, h5⟩ := h
  simp only [List.cons.injEq, Value.slice.injEq, and_true] at hv
  obtain ⟨rfl, rfl, rfl⟩ := hv
  have hl : (l.drop i).length = l.length - i := List.length_drop
  unfold sliced
  refine ⟨if cap = i then a else a.map (·.add (i * 12)), cap - i, by rw [hl], by omega, by omega, by omega, fun h => ?_, fun hp => ?_⟩
  · split at h
    · have := h4 h; omega
    · cases ha : a with
      | none => have := h4 ha; omega
      | some x => rw [ha] at h; cases h
  · obtain ⟨b, off, e, hc⟩ := h5 (by omega)
    refine ⟨b, off + i * 12, ?_, fun k hk => ?_⟩
    · rw [if_neg (by omega), e]
      simp only [Option.map_some, Addr.add]
      by_cases h0 : i * 12 = 0 <;> simp [h0]
    · obtain ⟨c, hcl, hcc, hE⟩ := hc (i + k) (by omega)
      refine ⟨c, hcl, fun j hj => ?_, by rw [List.getElem_drop]; exact hE⟩
      rw [← hcc j hj]
      congr 2
      omega
theorem src_nods {P : Program} {w : World} {v : Value} {l : List Nod} {tx e' : TypeId} (hk : P.underlying tx = some (.slice e')) (h : SliceC maxLen 12 (NodC maxLen) w [v] l) : Src P 12 tx v l.length (l.flatMap Nod.cells) w := by
  have hone : ∀ u ∈ l.flatMap Nod.cells, u.oneCell' = true := by
    intro u hu
    obtain ⟨x, _, hx⟩ := List.mem_flatMap.1 hu
    simp [Nod.cells] at hx
    rcases hx with rfl | rfl | rfl | rfl | rfl | rfl | rfl | rfl | rfl | rfl | rfl | rfl <;> rfl
  obtain ⟨a, cap, hv, h1, h2, h3, h4, h5⟩ := h
  simp only [List.cons.injEq, and_true] at hv
  subst hv
  cases a with
  | none =>
    have h0 : l.length = 0 := by have := h4 rfl; omega
    obtain rfl := List.eq_nil_of_length_eq_zero h0
    exact Src.ofNil w hk cap
  | some a =>
    refine Src.ofSlice w hk a l.length cap _ (flat_len l) (fun j u hu => ?_) hone
    have hj : j < l.length * 12 := by
      rcases Nat.lt_or_ge j (l.length * 12) with h | h
      · exact h
      · rw [List.getElem?_eq_none (by rw [flat_len]; exact h)] at hu; cases hu
    obtain ⟨b, off, e, hc⟩ := h5 (by omega)
    cases e
    have hjd : j = j / 12 * 12 + j % 12 := by omega
    have hj12 : j % 12 < 12 := Nat.mod_lt _ (by omega)
    have hji : j / 12 < l.length := by omega
    obtain ⟨c, hcl, hcc, hE⟩ := hc (j / 12) hji
    rw [hjd, flat_at l (j / 12) (j % 12) hji hj12, nk_eq hji, ← hE.1, ← hcc _ hj12] at hu
    rw [← hu]
    have e2 : ∀ q, (⟨b, off, none⟩ : Addr).add q = ⟨b, off + q, none⟩ := fun q => by unfold Addr.add; by_cases h0 : q = 0 <;> simp [h0]
    rw [e2]
    congr 2
    omega
theorem addr_zero (a : Option Addr) : a.map (·.add 0) = a := by cases a <;> simp [Addr.add]
theorem box_slice {w : World} {x : Nod} {t : TypeId} (hx : x.Ok maxLen w) : SliceC maxLen 12 (NodC maxLen) (w.alloc (.cells #[.string x.path, .int .i64 x.kind, .int .i64 x.same, .string x.target, .int .i64 x.mt.mode, .int .i64 x.mt.uid, .int .i64 x.mt.gid, .string x.mt.user, .string x.mt.group, .int .i64 x.mt.second, .int .i64 x.mt.nano, .slice x.da x.data.length x.dcap] t)) [.slice (some ⟨w.heap.size, 0, none⟩) 1 1] [x] := by
  refine ⟨some ⟨w.heap.size, 0, none⟩, 1, rfl, Nat.le_refl _, by unfold maxLen; omega, by unfold maxLen; simp, (fun h => by cases h), fun _ => ⟨w.heap.size, 0, rfl, fun i hi => ?_⟩⟩
  obtain rfl : i = 0 := by simp at hi; omega
  refine ⟨x.cells, rfl, fun j hj => ?_, rfl, hx.below ((Below.refl _ _).alloc (Nat.le_refl _) _)⟩
  have hz : 0 + 0 * 12 + j = j := by omega
  rw [hz, World.cell?_alloc_new]
  simp [Nod.cells]
theorem fresh_in {t : TypeId} {w w0 : World} {B : Nat} {v : Value} {c m : List Nod} (hown : OwnNods t w B v c) (hm : ∀ x ∈ m, x.Ok maxLen w) (hf : ∀ x ∈ m, ∀ a, x.da = some a → w0.heap.size ≤ a.block) (hv : ∀ b, v.ownBlock = some b → b < w0.heap.size) : ∀ x, x ∈ m → NodIn w v x := by
  intro x hx
  refine ⟨hm x hx, fun a hp ha he => ?_⟩
  have h1 := hf x hx a ha
  have h2 := hv _ he
  omega
theorem OwnNods.blk {t : TypeId} {w : World} {B : Nat} {v : Value} {l : List Nod} (h : OwnNods t w B v l) : ∀ b, v.ownBlock = some b → b < w.heap.size := by
  intro b hb
  rcases h.form with ⟨rfl, _⟩ | ⟨g, cap, rfl, _, hg, _⟩
  · simp [Value.ownBlock] at hb
  · simp [Value.ownBlock] at hb; omega
theorem OwnNods.oks {t : TypeId} {w : World} {B : Nat} {v : Value} {l : List Nod} (h : OwnNods t w B v l) : ∀ x ∈ l, x.Ok maxLen w := fun x hx => (h.2 x hx).1
theorem list_dat {l : List Nod} (h : ∀ x ∈ l, x.data.length ≤ 140737488355328) : ∀ i, i < l.length → (nk l i).data.length ≤ 140737488355328 := fun i hi => by rw [nk_eq hi]; exact h _ (List.getElem_mem hi)
theorem dat_list {l : List Nod} (h : ∀ i, i < l.length → (nk l i).data.length ≤ 140737488355328) : ∀ x ∈ l, x.data.length ≤ 140737488355328 := fun x hx => by
  obtain ⟨i, hi, rfl⟩ := List.mem_iff_getElem.1 hx
  rw [← nk_eq hi]; exact h i hi
end Go.Creel
namespace Go.Proofs.YtaffgndickdbiaaDoor
open Go.Creel Go.RowKit
theorem run_takeN (w : World) (a : Option Addr) (n cap i : Nat) (h : i ≤ n) (hc : n ≤ cap) : (Instr.slice 22 (.slice a n cap) none (some (.int .i64 i)) none).run Tryd.prog w = .ok (.slice a i cap) w := by
  rw [run_slice_h w 22 a n cap (by kernel_rfl) .i64 i (by omega) (by omega)]
  have hs : (sizeOf (Tryd.prog.elem 22)).run Tryd.prog w = .ok 12 w := by kernel_rfl
  rw [hs]
  simp only [Result.andThen, sliced, Int.toNat_natCast, Nat.zero_mul, addr_zero, ite_self, Nat.sub_zero]
theorem run_dropN (w : World) (a : Option Addr) (n cap i : Nat) (h : i ≤ n) (hc : n ≤ cap) : (Instr.slice 22 (.slice a n cap) (some (.int .i64 i)) none none).run Tryd.prog w = .ok (sliced a i n cap 12) w := by
  rw [run_slice_l w 22 a n cap (by kernel_rfl) .i64 i (by omega) (by omega)]
  have hs : (sizeOf (Tryd.prog.elem 22)).run Tryd.prog w = .ok 12 w := by kernel_rfl
  rw [hs]
  simp only [Result.andThen, Int.toNat_natCast]
end Go.Proofs.YtaffgndickdbiaaDoor
namespace Go.Creel
open Go.RowKit
def Chg.cells (c : Chg) : List Value := .int .i64 c.kind :: c.node.cells
def ck (l : List Chg) (k : Nat) : Chg := l.getD k ⟨0, nk [] 0⟩
theorem ck_eq {l : List Chg} {k : Nat} (h : k < l.length) : ck l k = l[k] := by simp [ck, List.getD_eq_getElem?_getD, List.getElem?_eq_getElem h]
def ChgIn (w : World) (v : Value) (x : Chg) : Prop := i64 x.kind ∧ NodIn w v x.node
def ChgC (N : Nat) (w : World) (cs : List Value) (e : Chg) : Prop := cs = e.cells ∧ i64 e.kind ∧ e.node.Ok N w
def ChgAt (w : World) (b o : Nat) (x : Chg) : Prop := w.cell? ⟨b, o, none⟩ = some (.int .i64 x.kind) ∧ NodAt w b (o + 1) x.node
def OwnChgs (t : TypeId) (w : World) (B : Nat) (v : Value) (l : List Chg) : Prop := w.ownsRow B t 13 v l.length (l.flatMap Chg.cells) ∧ ∀ x, x ∈ l → ChgIn w v x
theorem Chg.cells_len (x : Chg) : x.cells.length = 13 := rfl
theorem flatC_at : ∀ (l : List Chg) (k j : Nat), k < l.length → j < 13 → (l.flatMap Chg.cells)[k * 13 + j]? = (ck l k).cells[j]?
  | [], _, _, h, _ => absurd h (by simp)
  | x :: r, 0, j, _, hj => by
    rw [List.flatMap_cons, Nat.zero_mul, Nat.zero_add, List.getElem?_append_left (by rw [Chg.cells_len]; omega)]
    rfl
  | x :: r, k + 1, j, hk, hj => by
    rw [List.flatMap_cons, List.getElem?_append_right (by rw [Chg.cells_len]; omega), Chg.cells_len]
    have e : (k + 1) * 13 + j - 13 = k * 13 + j := by omega
    rw [e, flatC_at r k j (by simpa using hk) hj]
    rfl
section
variable {t : TypeId} {w w' : World} {B : Nat} {v v' : Value} {l m : List Chg}
theorem ChgIn.below {x : Chg} (h : ChgIn w v x) (hb : Below w.heap.size w w') : ChgIn w' v x := ⟨h.1, h.2.below hb⟩
theorem OwnChgs.nil (t : TypeId) (w : World) (B : Nat) : OwnChgs t w B (.slice none 0 0) [] := ⟨World.ownsRow_nil w B t 13, fun x hx => absurd hx (by simp)⟩
theorem OwnChgs.below (h : OwnChgs t w B v l) (hb : Below w.heap.size w w') : OwnChgs t w' B v l := ⟨ownsRow_below h.1 hb, fun x hx => (h.2 x hx).below hb⟩
theorem OwnChgs.mono {B' : Nat} (h : OwnChgs t w B v l) (hb : B' ≤ B) : OwnChgs t w B' v l := by
  refine ⟨⟨h.1.1, ?_⟩, h.2⟩
  rcases h.1.2 with ⟨rfl, h0⟩ | ⟨g, cap, cur, rfl, hbg, r⟩
  · exact .inl ⟨rfl, h0⟩
  · exact .inr ⟨g, cap, cur, rfl, Nat.le_trans hb hbg, r⟩
theorem OwnChgs.slice (h : OwnChgs t w B v l) (hl : l.length ≤ maxLen) : SliceC maxLen 13 (ChgC maxLen) w [v] l := by
  rcases h.1.2 with ⟨rfl, h0⟩ | ⟨g, cap, cur, rfl, hbg, hg, hnc, hcm, hcs, htake⟩
  · obtain rfl := List.eq_nil_of_length_eq_zero h0
    exact ⟨none, 0, rfl, by simp, by simp, by simp, fun _ => rfl, fun h => absurd h (by simp)⟩
  · refine ⟨some ⟨g, 0, none⟩, cap, rfl, hnc, hcm, hl, (fun h => by cases h), fun _ => ⟨g, 0, rfl, fun i hi => ⟨(l[i]).cells, rfl, fun j hj => ?_, rfl, (h.2 _ (List.getElem_mem hi)).1, (h.2 _ (List.getElem_mem hi)).2.1⟩⟩⟩
    rw [Nat.zero_add, h.1.cellAt _ (by omega), flatC_at l i j hi hj, ck_eq hi]
theorem OwnChgs.form (h : OwnChgs t w B v l) : (v = .slice none 0 0 ∧ l = []) ∨ ∃ g cap, v = .slice (some ⟨g, 0, none⟩) l.length cap ∧ B ≤ g ∧ g < w.heap.size ∧ l.length ≤ cap ∧ cap ≤ maxLen := by
  rcases h.1.2 with ⟨rfl, h0⟩ | ⟨g, cap, cur, rfl, hbg, hg, hnc, hcm, hcs, htake⟩
  · exact .inl ⟨rfl, List.eq_nil_of_length_eq_zero h0⟩
  · exact .inr ⟨g, cap, rfl, hbg, (Array.getElem?_eq_some_iff.1 hg).1, hnc, hcm⟩
theorem OwnChgs.app (h : OwnChgs t w B v l) (hm : ∀ x, x ∈ m → ChgIn w v x) (ho : w'.ownsRow B t 13 v' (l.length + m.length) (l.flatMap Chg.cells ++ m.flatMap Chg.cells)) (hg : w.grownBy w' v.ownBlock)
    (hv : v'.ownBlock = v.ownBlock ∨ ∃ b, v'.ownBlock = some b ∧ w.heap.size ≤ b) : OwnChgs t w' B v' (l ++ m) := by
  refine ⟨by rw [List.length_append, List.flatMap_append]; exact ho, fun x hx => ?_⟩
  have hin : ChgIn w v x := by
    rcases List.mem_append.1 hx with a | a
    · exact h.2 x a
    · exact hm x a
  refine ⟨hin.1, hin.2.1.grown hg hin.2.2, fun a hp ha => ?_⟩
  rcases hv with e | ⟨b, e, hb⟩
  · rw [e]; exact hin.2.2 a hp ha
  · rw [e]
    intro e2
    have h3 := hin.2.1.lt a hp ha
    simp only [Option.some.injEq] at e2
    omega
end
end Go.Creel
