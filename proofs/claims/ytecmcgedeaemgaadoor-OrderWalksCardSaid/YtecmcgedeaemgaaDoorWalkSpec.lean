/-
  A tree's own order is that of a walk: plain words and laws.
-/
import Derived.Test.YtecmcgedeaemgaaDoorPutSpec
import Derived.Test.YtecmcgedeaemgaaDoorFitSpec
import Derived.Test.YtecmcgedeaemgaaDoorOrderNames
namespace Go.Creel
set_option linter.unusedVariables false
set_option linter.unusedSimpArgs false
open Go.RowKit
/-! ### Parts of paths -/
theorem parts_none : ∀ (l : List UInt8), ∀ p ∈ partsL 47 l, ∀ x ∈ p, x ≠ 47
  | [], p, hp, x, hx => by simp [partsL] at hp; subst hp; cases hx
  | y :: l, p, hp, x, hx => by
    by_cases h : y = 47
    · unfold partsL at hp
      rw [if_pos h] at hp
      rcases List.mem_cons.1 hp with rfl | hp
      · cases hx
      · exact parts_none l p hp x hx
    · rw [partsL_cons h] at hp
      have ih := parts_none l
      cases hq : partsL 47 l with
      | nil => exact absurd hq (partsL_ne _ _)
      | cons a t =>
        rw [hq] at hp ih
        simp only at hp
        rcases List.mem_cons.1 hp with rfl | hp
        · rcases List.mem_cons.1 hx with rfl | hx
          · exact h
          · exact ih a (by simp) x hx
        · exact ih p (by simp [hp]) x hx
theorem split_last {α : Type} : ∀ {l : List α}, l ≠ [] → ∃ D d, l = D ++ [d] := fun {l} h => ⟨l.dropLast, l.getLast h, (List.dropLast_concat_getLast h).symm⟩
theorem parts_join' : ∀ (n : Nat) (D : List (List UInt8)) (d : List UInt8), D.length = n → (∀ p ∈ D ++ [d], ∀ x ∈ p, x ≠ 47) → partsL 47 (joinL (D ++ [d])) = D ++ [d] := by
  intro n
  induction n with
  | zero =>
    intro D d hn h
    obtain rfl := List.eq_nil_of_length_eq_zero hn
    rw [joinL_snoc, if_pos rfl]; exact partsL_free (fun x hx => h d (by simp) x hx)
  | succ n ih =>
    intro D d hn h
    obtain ⟨E, e, rfl⟩ := split_last (l := D) (by intro e; subst e; simp at hn)
    rw [joinL_snoc, if_neg (by simp), partsL_mid (fun x hx => h d (by simp) x hx), ih E e (by simpa using hn) (fun p hp => h p (by simp at hp ⊢; rcases hp with hp | hp; exact .inl hp; exact .inr (.inl hp)))]
theorem parts_join (D : List (List UInt8)) (d : List UInt8) (h : ∀ p ∈ D ++ [d], ∀ x ∈ p, x ≠ 47) : partsL 47 (joinL (D ++ [d])) = D ++ [d] := parts_join' _ D d rfl h
/-- a right path's parts: those of what it is in, and its last one -/
theorem right_parts {s : ByteArray} (h : pathFault s = 0) : pathParts s = pathParts (pathUp s) ++ [pathBase s] ∧ ((pathUp s).size = 0 → s = pathBase s) ∧ ((pathUp s).size ≠ 0 → s = pathUp s ++ ofL [47] ++ pathBase s) := by
  have hpos := (pathFault_inv h).1
  obtain ⟨D, d, hD⟩ := split_last (partsL_ne 47 s.data.toList)
  have hn := parts_none s.data.toList
  rw [hD] at hn
  have hup : pathUp s = ofL (joinL D) := by unfold pathUp; rw [hD, List.dropLast_concat]
  have hb : pathBase s = ofL d := by unfold pathBase; rw [hD, List.getLastD_concat]
  have hps : pathParts s = D.map ofL ++ [ofL d] := by rw [pathParts, if_neg (by omega), partsS, hD]; simp
  have hj := joinL_parts s.data.toList
  rw [hD] at hj
  rw [joinL_snoc] at hj
  by_cases hD0 : D = []
  · subst hD0
    have h0 : (pathUp s).size = 0 := by rw [hup, ofL_size]; rfl
    rw [if_pos rfl] at hj
    refine ⟨?_, fun _ => ?_, fun h1 => absurd h0 h1⟩
    · rw [hps, hb, pathParts, if_pos h0]; rfl
    · rw [hb]; apply ext_bytes; rw [ofL_data]; exact hj.symm
  · rw [if_neg hD0] at hj
    obtain ⟨E, e, hE⟩ := split_last hD0
    have hne : (pathUp s).size ≠ 0 := by
      intro h0
      rw [hup, ofL_size] at h0
      have hz : joinL D = [] := List.eq_nil_of_length_eq_zero h0
      have hq : partsL 47 (joinL D) = D := by rw [hE]; exact parts_join E e (fun p hp => hn p (by rw [hE]; simp at hp ⊢; rcases hp with hp | hp; exact .inl hp; exact .inr (.inl hp)))
      rw [hz] at hq
      have hbad : (partsS 47 s).any badPart = true := by
        rw [partsS, hD, ← hq]
        simp [partsL, badPart, ofL_size]
      unfold pathFault at h
      split at h
      · cases h
      · split at h
        · cases h
        · simp [hbad] at h
    refine ⟨?_, fun h1 => absurd h1 hne, fun _ => ?_⟩
    · have hq : partsL 47 (joinL D) = D := by rw [hE]; exact parts_join E e (fun p hp => hn p (by rw [hE]; simp at hp ⊢; rcases hp with hp | hp; exact .inl hp; exact .inr (.inl hp)))
      rw [hps, hb]
      conv => rhs; rw [pathParts, if_neg hne, partsS, hup, ofL_data, hq]
    · rw [hup, hb, ofL_append, ofL_append]
      apply ext_bytes
      rw [ofL_data, List.append_assoc]
      exact hj.symm
theorem parts_inj {a b : ByteArray} (h : pathParts a = pathParts b) : a = b := by
  have key : ∀ s : ByteArray, s.data.toList = joinL ((pathParts s).map fun p => p.data.toList) := by
    intro s
    unfold pathParts
    by_cases h0 : s.size = 0
    · rw [if_pos h0]
      have : s.data.toList = [] := List.eq_nil_of_length_eq_zero (by rw [← Lib.size_eq]; exact h0)
      rw [this]; rfl
    · rw [if_neg h0, partsS, List.map_map]
      have : (fun p : ByteArray => p.data.toList) ∘ ofL = id := by funext x; simp [ofL_data]
      rw [this, List.map_id, joinL_parts]
  apply ext_bytes
  rw [key a, key b, h]
theorem parts_nil : pathParts ByteArray.empty = [] := by unfold pathParts; rw [if_pos (by rfl)]
/-! ### The order, and what is in what -/
def Under (D P : List ByteArray) : Prop := ∃ c A, P = D ++ c :: A
theorem ordP_front : ∀ (D X Y : List ByteArray), ordP (D ++ X) (D ++ Y) = ordP X Y
  | [], X, Y => rfl
  | d :: D, X, Y => by rw [List.cons_append, List.cons_append, ordP_cons, if_pos (cmpS_self d)]; exact ordP_front D X Y
theorem ordP_under {D P : List ByteArray} (h : Under D P) : ordP D P = -1 := by
  obtain ⟨c, A, rfl⟩ := h
  have := ordP_front D [] (c :: A)
  rw [List.append_nil] at this
  rw [this]; rfl
theorem Under.trans {C D P : List ByteArray} (h : Under C D) (h2 : Under D P) : Under C P := by
  obtain ⟨c, A, rfl⟩ := h
  obtain ⟨d, B, rfl⟩ := h2
  exact ⟨c, A ++ d :: B, by simp⟩
theorem under_apart {D X Y : List ByteArray} {p q : ByteArray} (h : ordP (D ++ [p]) (D ++ [q]) = -1) : ordP (D ++ p :: X) (D ++ q :: Y) = -1 := by
  rw [ordP_front] at h ⊢
  rw [ordP_cons] at h ⊢
  by_cases e : cmpS p q = 0
  · rw [if_pos e] at h; cases h
  · rw [if_neg e] at h ⊢; exact h
theorem sorted_ext : ∀ {l m : List Nod}, l.Pairwise PathLt → m.Pairwise PathLt → (∀ x, x ∈ l ↔ x ∈ m) → l = m
  | [], [], _, _, _ => rfl
  | [], y :: m, _, _, h => absurd ((h y).2 (by simp)) (by simp)
  | x :: l, [], _, _, h => absurd ((h x).1 (by simp)) (by simp)
  | x :: l, y :: m, hl, hm, h => by
    rw [List.pairwise_cons] at hl hm
    have hirr : ∀ z : Nod, ¬ PathLt z z := fun z hz => pathLt_ne hz rfl
    have hxy : x = y := by
      rcases List.mem_cons.1 ((h x).1 (by simp)) with e | e
      · exact e
      · rcases List.mem_cons.1 ((h y).2 (by simp)) with e2 | e2
        · exact e2.symm
        · exact absurd (pathLt_trans (hl.1 y e2) (hm.1 x e)) (hirr x)
    subst hxy
    rw [sorted_ext hl.2 hm.2 (fun z => ?_)]
    constructor
    · intro hz
      rcases List.mem_cons.1 ((h z).1 (by simp [hz])) with e | e
      · subst e; exact absurd (hl.1 z hz) (hirr z)
      · exact e
    · intro hz
      rcases List.mem_cons.1 ((h z).2 (by simp [hz])) with e | e
      · subst e; exact absurd (hm.1 z hz) (hirr z)
      · exact e
theorem TreeP.uniq {l : List Nod} (h : TreeP l) {x y : Nod} (hx : x ∈ l) (hy : y ∈ l) (he : x.path = y.path) : x = y := by
  obtain ⟨i, hi, rfl⟩ := List.mem_iff_getElem.1 hx
  obtain ⟨j, hj, rfl⟩ := List.mem_iff_getElem.1 hy
  rcases Nat.lt_trichotomy i j with e | e | e
  · exact absurd he (pathLt_ne (List.pairwise_iff_getElem.1 h.ord i j hi hj e))
  · subst e; rfl
  · exact absurd he.symm (pathLt_ne (List.pairwise_iff_getElem.1 h.ord j i hj hi e))
theorem nodFault_pathOk {x : Nod} (h : nodFault x = 0) : pathFault x.path = 0 := by
  unfold nodFault nodFaultN at h
  exact Classical.byContradiction fun e => by rw [if_pos e] at h; exact e h
abbrev PP (x : Nod) : List ByteArray := pathParts x.path
theorem TreeP.parts {l : List Nod} (h : TreeP l) {x : Nod} (hx : x ∈ l) : PP x = pathParts (pathUp x.path) ++ [pathBase x.path] := (right_parts (nodFault_pathOk (h.nod x hx))).1
/-- what a node is in is there, too, up to the tree itself -/
theorem TreeP.above {l : List Nod} (h : TreeP l) : ∀ (n : Nat) (x : Nod), x ∈ l → (PP x).length = n → ∀ Q, Q ≠ [] → Under Q (PP x) → ∃ y ∈ l, PP y = Q ∧ y.kind = 2 := by
  intro n
  induction n with
  | zero =>
    intro x hx hn Q hQ hu
    obtain ⟨c, A, e⟩ := hu
    rw [e] at hn; simp at hn
  | succ n ih =>
    intro x hx hn Q hQ hu
    have hp := h.parts hx
    have hne : (pathUp x.path).size ≠ 0 := by
      intro h0
      have : pathParts (pathUp x.path) = [] := by unfold pathParts; rw [if_pos h0]
      rw [this] at hp
      obtain ⟨c, A, e⟩ := hu
      rw [e] at hp
      cases Q with
      | nil => exact hQ rfl
      | cons a Q => have := congrArg List.length hp; simp at this
    obtain ⟨a, b, e⟩ := List.append_of_mem hx
    obtain ⟨y, hy, hyp, hyk⟩ := h.ups a x b e hne
    have hyl : y ∈ l := by rw [e]; simp [hy]
    have hpy : PP x = PP y ++ [pathBase x.path] := by rw [hp, ← hyp]
    obtain ⟨c, A, e2⟩ := hu
    rw [hpy] at e2
    by_cases hA : A = []
    · subst hA
      have := List.append_inj_left' e2 (by simp)
      exact ⟨y, hyl, this, hyk⟩
    · obtain ⟨A, z, rfl⟩ := split_last hA
      have e3 : PP y ++ [pathBase x.path] = (Q ++ c :: A) ++ [z] := by rw [e2]; simp
      have := List.append_inj_left' e3 (by simp)
      exact ih y hyl (by rw [hpy] at hn; simpa using hn) Q hQ ⟨c, A, this⟩
open Classical in
noncomputable def inDir (l : List Nod) (d : ByteArray) : List Nod := l.filter fun x => decide (Under (pathParts d) (PP x))
open Classical in
noncomputable def kids (l : List Nod) (d : ByteArray) : List Nod := l.filter fun x => decide (pathUp x.path = d)
noncomputable def kidAll (l : List Nod) (c : Nod) : List Nod := c :: (if c.kind = 2 then inDir l c.path else [])
theorem inDir_kids {l : List Nod} (h : TreeP l) (d : ByteArray) : inDir l d = (kids l d).flatMap (kidAll l) := by
  classical
  have hA : ∀ x, x ∈ inDir l d ↔ x ∈ l ∧ Under (pathParts d) (PP x) := fun x => by unfold inDir; rw [List.mem_filter, decide_eq_true_eq]
  have hIn : ∀ c x, x ∈ inDir l c ↔ x ∈ l ∧ Under (pathParts c) (PP x) := fun c x => by unfold inDir; rw [List.mem_filter, decide_eq_true_eq]
  have hK : ∀ x, x ∈ kids l d ↔ x ∈ l ∧ pathUp x.path = d := fun x => by unfold kids; rw [List.mem_filter, decide_eq_true_eq]
  have hkp : ∀ c, c ∈ kids l d → PP c = pathParts d ++ [pathBase c.path] := fun c hc => by
    have := h.parts ((hK c).1 hc).1
    rw [((hK c).1 hc).2] at this
    exact this
  have hmem : ∀ c x, x ∈ kidAll l c → x = c ∨ (c.kind = 2 ∧ x ∈ l ∧ Under (PP c) (PP x)) := fun c x hx => by
    unfold kidAll at hx
    rcases List.mem_cons.1 hx with e | e
    · exact .inl e
    · split at e
      · rename_i hk; exact .inr ⟨hk, (hIn _ x).1 e⟩
      · cases e
  refine sorted_ext (h.ord.filter _) ?_ (fun x => ?_)
  · rw [List.pairwise_flatMap]
    refine ⟨fun c hc => ?_, (h.ord.filter _).imp_of_mem ?_⟩
    · unfold kidAll
      rw [List.pairwise_cons]
      refine ⟨fun y hy => ?_, ?_⟩
      · split at hy
        · exact ordP_under ((hIn _ y).1 hy).2
        · cases hy
      · split
        · exact h.ord.filter _
        · exact List.Pairwise.nil
    · intro a b ha hb hab x hx y hy
      have pa := hkp a ha
      have pb := hkp b hb
      have hab' : ordP (pathParts d ++ [pathBase a.path]) (pathParts d ++ [pathBase b.path]) = -1 := by rw [← pa, ← pb]; exact hab
      have fx : ∃ X, PP x = pathParts d ++ pathBase a.path :: X := by
        rcases hmem a x hx with rfl | ⟨_, _, c, A, e⟩
        · exact ⟨[], pa⟩
        · exact ⟨c :: A, by rw [e, pa]; simp⟩
      have fy : ∃ Y, PP y = pathParts d ++ pathBase b.path :: Y := by
        rcases hmem b y hy with rfl | ⟨_, _, c, A, e⟩
        · exact ⟨[], pb⟩
        · exact ⟨c :: A, by rw [e, pb]; simp⟩
      obtain ⟨X, ex⟩ := fx
      obtain ⟨Y, ey⟩ := fy
      show ordP (PP x) (PP y) = -1
      rw [ex, ey]
      exact under_apart hab'
  · rw [hA, List.mem_flatMap]
    constructor
    · rintro ⟨hx, c, A, e⟩
      have hself : ∀ z ∈ l, PP z = pathParts d ++ [c] → z ∈ kids l d := fun z hz ez => (hK z).2 ⟨hz, by
        have := h.parts hz
        rw [ez] at this
        exact (parts_inj (List.append_inj_left' this (by simp))).symm⟩
      by_cases hAn : A = []
      · subst hAn
        exact ⟨x, hself x hx e, by unfold kidAll; simp⟩
      · obtain ⟨a, A', rfl⟩ := List.exists_cons_of_ne_nil hAn
        obtain ⟨y, hy, hyp, hyk⟩ := h.above _ x hx rfl (pathParts d ++ [c]) (by simp) ⟨a, A', by rw [e]; simp⟩
        refine ⟨y, hself y hy hyp, ?_⟩
        unfold kidAll
        rw [if_pos hyk]
        refine List.mem_cons_of_mem _ ((hIn _ x).2 ⟨hx, a, A', ?_⟩)
        show PP x = PP y ++ a :: A'
        rw [hyp, e]; simp
    · rintro ⟨c, hc, hx⟩
      have hcl := ((hK c).1 hc).1
      rcases hmem c x hx with rfl | ⟨_, hxl, e, A, eA⟩
      · exact ⟨hcl, _, [], hkp x hc⟩
      · exact ⟨hxl, pathBase c.path, e :: A, by rw [eA, hkp c hc]; simp⟩
theorem inDir_root {l : List Nod} (h : TreeP l) : inDir l ByteArray.empty = l := by
  classical
  unfold inDir
  rw [List.filter_eq_self]
  intro x hx
  rw [decide_eq_true_eq, parts_nil]
  have := h.parts hx
  cases hp : PP x with
  | nil => rw [hp] at this; simp at this
  | cons c A => exact ⟨c, A, rfl⟩
/-- a child's path: of what it is in, and its own name -/
theorem kid_path {l : List Nod} (h : TreeP l) {d : ByteArray} {c : Nod} (hc : c ∈ kids l d) : c ∈ l ∧ (d.size = 0 → c.path = pathBase c.path) ∧ (d.size ≠ 0 → c.path = d ++ ofL [47] ++ pathBase c.path) := by
  classical
  unfold kids at hc
  rw [List.mem_filter, decide_eq_true_eq] at hc
  obtain ⟨hcl, rfl⟩ := hc
  obtain ⟨_, h1, h2⟩ := right_parts (nodFault_pathOk (h.nod c hcl))
  exact ⟨hcl, h1, h2⟩
theorem names_kids (l : List Nod) (d : ByteArray) : namesL l d l.length = (kids l d).map fun x => pathBase x.path := by
  unfold namesL kids
  rw [List.take_length]
noncomputable def walkL (l : List Nod) (d : ByteArray) : List ByteArray := (inDir l d).map fun x => x.path
noncomputable def walkTo (l : List Nod) (d : ByteArray) (k : Nat) : List ByteArray := (((kids l d).take k).flatMap (kidAll l)).map fun x => x.path
theorem walkTo_zero (l : List Nod) (d : ByteArray) : walkTo l d 0 = [] := rfl
theorem walkTo_succ {l : List Nod} {d : ByteArray} {k : Nat} (hk : k < (kids l d).length) : walkTo l d (k + 1) = walkTo l d k ++ [(nk (kids l d) k).path] ++ (if (nk (kids l d) k).kind = 2 then walkL l (nk (kids l d) k).path else []) := by
  unfold walkTo
  rw [take_nk hk, List.flatMap_append, List.map_append, List.append_assoc]
  congr 1
  rw [List.flatMap_singleton]
  unfold kidAll walkL
  split <;> simp
theorem walkTo_all {l : List Nod} (h : TreeP l) (d : ByteArray) : walkTo l d (kids l d).length = walkL l d := by
  unfold walkTo walkL
  rw [List.take_length, inDir_kids h]
theorem walkL_len (l : List Nod) (d : ByteArray) : (walkL l d).length ≤ l.length := by
  unfold walkL inDir
  rw [List.length_map]; exact List.length_filter_le _ _
theorem walkTo_len {l : List Nod} (h : TreeP l) (d : ByteArray) (k : Nat) : (walkTo l d k).length ≤ l.length := by
  refine Nat.le_trans ?_ (walkL_len l d)
  rw [← walkTo_all h]
  unfold walkTo
  rw [List.length_map, List.length_map, List.take_length]
  conv => rhs; rw [← List.take_append_drop k (kids l d)]
  rw [List.flatMap_append, List.length_append]
  omega
theorem kids_len (l : List Nod) (d : ByteArray) : (kids l d).length ≤ l.length := by unfold kids; exact List.length_filter_le _ _
theorem walkL_root {l : List Nod} (h : TreeP l) : walkL l ByteArray.empty = l.map fun x => x.path := by unfold walkL; rw [inDir_root h]
end Go.Creel
