/-
  The verdict on members: the plain words.
-/
import Derived.Test.YtaffgndickdbiaaDoorEnts
namespace Go.Creel
set_option linter.unusedVariables false
open Go.RowKit
/-- the member of a path among the first k; a zero member where there is none -/
def metGet (l : List Ent) (k : Nat) (s : ByteArray) : Ent := if entFind (l.take k) s < k then ek l (entFind (l.take k) s) else entZ
theorem metGet_yes {l : List Ent} {k : Nat} {s : ByteArray} (h : entFind (l.take k) s < k) : metGet l k s = ek l (entFind (l.take k) s) := if_pos h
theorem metGet_no {l : List Ent} {k : Nat} {s : ByteArray} (h : ¬ entFind (l.take k) s < k) : metGet l k s = entZ := if_neg h
def OrdOkE (l : List Ent) (i : Nat) : Prop := 0 < i → ordP (pathParts (ek l (i - 1)).path) (pathParts (ek l i).path) = -1
def UpOkE (l : List Ent) (i : Nat) : Prop := (pathUp (ek l i).path).size ≠ 0 → (metGet l i (pathUp (ek l i).path)).kind = 2
def LinkOkE (l : List Ent) (i : Nat) : Prop := (ek l i).kind = 4 → (metGet l i (ek l i).target).kind = 1 ∧ (metGet l i (ek l i).target).mt = (ek l i).mt
open Classical in
/-- what is wrong with member i, where nothing is wrong ahead of it -/
noncomputable def stepE (l : List Ent) (i : Nat) : Int :=
  if ¬ entFault (ek l i) = 0 then entFault (ek l i) else if ¬ OrdOkE l i then 6 else if ¬ UpOkE l i then 10 else if ¬ LinkOkE l i then 11 else 0
open Classical in
noncomputable def entsFault (l : List Ent) : Int :=
  if 40 < l.length then 1 else if h : ∃ k, k < l.length ∧ stepE l k ≠ 0 ∧ ∀ j, j < k → stepE l j = 0 then stepE l (Classical.choose h) else 0
theorem entsFault_many {l : List Ent} (h : 40 < l.length) : entsFault l = 1 := by unfold entsFault; rw [if_pos h]
theorem entsFault_at {l : List Ent} {k : Nat} {e : Int} (hl : l.length ≤ 40) (hk : k < l.length) (hz : ∀ j, j < k → stepE l j = 0) (he : stepE l k = e) (hne : e ≠ 0) : entsFault l = e := by
  have hex : ∃ k, k < l.length ∧ stepE l k ≠ 0 ∧ ∀ j, j < k → stepE l j = 0 := ⟨k, hk, by rw [he]; exact hne, hz⟩
  unfold entsFault
  rw [if_neg (by omega), dif_pos hex]
  obtain ⟨h1, h2, h3⟩ := Classical.choose_spec hex
  have : Classical.choose hex = k := by
    rcases Nat.lt_trichotomy (Classical.choose hex) k with h | h | h
    · exact absurd (hz _ h) h2
    · exact h
    · exact absurd (h3 _ h) (by rw [he]; exact hne)
  rw [this, he]
theorem entsFault_ok {l : List Ent} (hl : l.length ≤ 40) (hz : ∀ j, j < l.length → stepE l j = 0) : entsFault l = 0 := by
  unfold entsFault
  rw [if_neg (by omega), dif_neg (by rintro ⟨k, h1, h2, _⟩; exact h2 (hz k h1))]
theorem entsFault_all {l : List Ent} (h : entsFault l = 0) : l.length ≤ 40 ∧ ∀ k, k < l.length → stepE l k = 0 := by
  have hl : l.length ≤ 40 := by
    rcases Nat.lt_or_ge 40 l.length with e | e
    · rw [entsFault_many e] at h; cases h
    · exact e
  refine ⟨hl, ?_⟩
  have key : ∀ k, k ≤ l.length → ∀ j, j < k → stepE l j = 0 := by
    intro k
    induction k with
    | zero => intro _ j hj; omega
    | succ k ih =>
      intro hk j hj
      by_cases e : j = k
      · subst e
        refine Classical.byContradiction fun hne => ?_
        exact hne ((entsFault_at hl (by omega) (ih (by omega)) rfl hne).symm.trans h)
      · exact ih (by omega) j (by omega)
  exact key _ (Nat.le_refl _)
theorem stepE_ent {l : List Ent} {i : Nat} (h : ¬ entFault (ek l i) = 0) : stepE l i = entFault (ek l i) := by unfold stepE; rw [if_pos h]
theorem stepE_ord {l : List Ent} {i : Nat} (h : entFault (ek l i) = 0) (h1 : ¬ OrdOkE l i) : stepE l i = 6 := by unfold stepE; rw [if_neg (by simpa using h), if_pos h1]
theorem stepE_up {l : List Ent} {i : Nat} (h : entFault (ek l i) = 0) (h1 : OrdOkE l i) (h2 : ¬ UpOkE l i) : stepE l i = 10 := by unfold stepE; rw [if_neg (by simpa using h), if_neg (by simpa using h1), if_pos h2]
theorem stepE_link {l : List Ent} {i : Nat} (h : entFault (ek l i) = 0) (h1 : OrdOkE l i) (h2 : UpOkE l i) (h3 : ¬ LinkOkE l i) : stepE l i = 11 := by unfold stepE; rw [if_neg (by simpa using h), if_neg (by simpa using h1), if_neg (by simpa using h2), if_pos h3]
theorem stepE_ok {l : List Ent} {i : Nat} (h : entFault (ek l i) = 0) (h1 : OrdOkE l i) (h2 : UpOkE l i) (h3 : LinkOkE l i) : stepE l i = 0 := by unfold stepE; rw [if_neg (by simpa using h), if_neg (by simpa using h1), if_neg (by simpa using h2), if_neg (by simpa using h3)]
theorem stepE_zero {l : List Ent} {i : Nat} (h : stepE l i = 0) : entFault (ek l i) = 0 ∧ OrdOkE l i := by
  have h0 : entFault (ek l i) = 0 := Classical.byContradiction fun e => e ((stepE_ent e).symm.trans h)
  refine ⟨h0, Classical.byContradiction fun e => ?_⟩
  rw [stepE_ord h0 e] at h
  cases h
theorem entFault_path {x : Ent} (h : entFault x = 0) : x.path.size ≤ 400 := by
  unfold entFault entFaultN at h
  have hp : pathFault x.path = 0 := Classical.byContradiction fun e => by rw [if_pos e] at h; exact e h
  refine Classical.byContradiction fun e => ?_
  have := pathFault_size (s := x.path) (.inr (by omega))
  rw [hp] at this
  cases this
theorem ordP_range (X Y : List ByteArray) : ordP X Y = -1 ∨ ordP X Y = 0 ∨ ordP X Y = 1 := by
  induction X generalizing Y with
  | nil => cases Y <;> simp [ordP]
  | cons x X ih =>
    cases Y with
    | nil => simp [ordP]
    | cons y Y =>
      unfold ordP
      split
      · exact ih Y
      · rcases cmpS_cases x y with ⟨_, h⟩ | ⟨_, _, h⟩ | ⟨_, _, h⟩ <;> simp [h]
open Classical in
noncomputable def ordBadE (l : List Ent) (k : Nat) : Bool := decide (¬ OrdOkE l k)
theorem ordBadE_t {l : List Ent} {k : Nat} (h : ¬ OrdOkE l k) : ordBadE l k = true := by unfold ordBadE; simp [h]
theorem ordBadE_f {l : List Ent} {k : Nat} (h : OrdOkE l k) : ordBadE l k = false := by unfold ordBadE; simp [h]
open Classical in
noncomputable def upOkE (l : List Ent) (k : Nat) : Bool := decide (UpOkE l k)
theorem upOkE_t {l : List Ent} {k : Nat} (h : UpOkE l k) : upOkE l k = true := by unfold upOkE; simp [h]
theorem upOkE_f {l : List Ent} {k : Nat} (h : ¬ UpOkE l k) : upOkE l k = false := by unfold upOkE; simp [h]
open Classical in
noncomputable def linkOkE (l : List Ent) (k : Nat) : Bool := decide (LinkOkE l k)
theorem linkOkE_t {l : List Ent} {k : Nat} (h : LinkOkE l k) : linkOkE l k = true := by unfold linkOkE; simp [h]
theorem linkOkE_f {l : List Ent} {k : Nat} (h : ¬ LinkOkE l k) : linkOkE l k = false := by unfold linkOkE; simp [h]
theorem ordE_zero (l : List Ent) : ordBadE l 0 = false := ordBadE_f (fun h => absurd h (by omega))
theorem ordE_dec (l : List Ent) (q : Nat) : decide (0 ≤ ordP (pathParts (ek l q).path) (pathParts (ek l (q + 1)).path)) = ordBadE l (q + 1) := by
  by_cases h : ordP (pathParts (ek l q).path) (pathParts (ek l (q + 1)).path) = -1
  · rw [ordBadE_f (fun _ => by simpa using h), h]; rfl
  · rw [ordBadE_t (fun e => h (by simpa using e (by omega)))]
    rcases ordP_range (pathParts (ek l q).path) (pathParts (ek l (q + 1)).path) with e | e | e
    · exact absurd e h
    · rw [e]; rfl
    · rw [e]; rfl
theorem zsE_next {l : List Ent} {k : Nat} (hz : ∀ j, j < k → stepE l j = 0) (h : stepE l k = 0) : ∀ j, j < k + 1 → stepE l j = 0 := fun j hj => by
  by_cases e : j = k
  · rw [e]; exact h
  · exact hz j (by omega)
theorem meta_sameE {x y : Meta} (h0 : x.mode = y.mode) (h1 : x.uid = y.uid) (h2 : x.gid = y.gid) (h3 : x.user.toList = y.user.toList) (h4 : x.group.toList = y.group.toList) (h5 : x.second = y.second) (h6 : x.nano = y.nano) : x = y := by
  obtain ⟨a, b, c, d, e, f, g⟩ := x
  obtain ⟨a', b', c', d', e', f', g'⟩ := y
  simp only at *
  rw [h0, h1, h2, toList_inj h3, toList_inj h4, h5, h6]
/-- metas that differ: where they first do -/
theorem meta_casesE {x y : Meta} (h : x ≠ y) : (¬ x.mode = y.mode) ∨ (x.mode = y.mode ∧ ¬ x.uid = y.uid) ∨ (x.mode = y.mode ∧ x.uid = y.uid ∧ ¬ x.gid = y.gid) ∨ (x.mode = y.mode ∧ x.uid = y.uid ∧ x.gid = y.gid ∧ ¬ x.user.toList = y.user.toList) ∨
    (x.mode = y.mode ∧ x.uid = y.uid ∧ x.gid = y.gid ∧ x.user.toList = y.user.toList ∧ ¬ x.group.toList = y.group.toList) ∨ (x.mode = y.mode ∧ x.uid = y.uid ∧ x.gid = y.gid ∧ x.user.toList = y.user.toList ∧ x.group.toList = y.group.toList ∧ ¬ x.second = y.second) ∨
    (x.mode = y.mode ∧ x.uid = y.uid ∧ x.gid = y.gid ∧ x.user.toList = y.user.toList ∧ x.group.toList = y.group.toList ∧ x.second = y.second ∧ ¬ x.nano = y.nano) := by
  by_cases h0 : x.mode = y.mode
  · by_cases h1 : x.uid = y.uid
    · by_cases h2 : x.gid = y.gid
      · by_cases h3 : x.user.toList = y.user.toList
        · by_cases h4 : x.group.toList = y.group.toList
          · by_cases h5 : x.second = y.second
            · by_cases h6 : x.nano = y.nano
              · exact absurd (meta_sameE h0 h1 h2 h3 h4 h5 h6) h
              · simp [h0, h1, h2, h3, h4, h5, h6]
            · simp [h0, h1, h2, h3, h4, h5]
          · simp [h0, h1, h2, h3, h4]
        · simp [h0, h1, h2, h3]
      · simp [h0, h1, h2]
    · simp [h0, h1]
  · simp [h0]
end Go.Creel
