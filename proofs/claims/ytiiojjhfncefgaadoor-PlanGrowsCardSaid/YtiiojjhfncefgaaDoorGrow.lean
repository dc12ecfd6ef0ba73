/-
  Trees that members make: the plain words and law.
-/
import Derived.Test.YtiiojjhfncefgaaDoorCopyR
import Derived.Test.YtiiojjhfncefgaaDoorAnewSpec
import Derived.Test.YtiiojjhfncefgaaDoorEntsSpec
namespace Go.Creel
set_option linter.unusedVariables false
set_option linter.unusedSimpArgs false
open Go.RowKit
theorem stepE_link0 {l : List Ent} {i : Nat} (h : stepE l i = 0) : LinkOkE l i := by
  obtain ⟨h0, h1⟩ := stepE_zero h
  refine Classical.byContradiction fun e => ?_
  by_cases h2 : UpOkE l i
  · rw [stepE_link h0 h1 h2 e] at h; cases h
  · rw [stepE_up h0 h1 h2] at h; cases h
theorem ents_ne {l : List Ent} (h : entsFault l = 0) {j k : Nat} (hjk : j < k) (hk : k < l.length) : (ek l j).path ≠ (ek l k).path :=
  chain_ne (p := fun j => (ek l j).path) (k := k) (fun i h0 h1 => (stepE_zero ((entsFault_all h).2 i (by omega))).2 h0) j hjk
theorem ents_inj {l : List Ent} (h : entsFault l = 0) {j k : Nat} (hj : j < l.length) (hk : k < l.length) (he : (ek l j).path = (ek l k).path) : j = k := by
  rcases Nat.lt_trichotomy j k with e | e | e
  · exact absurd he (ents_ne h e hk)
  · exact e
  · exact absurd he.symm (ents_ne h e hj)
theorem entFault_size {x : Ent} (h : entFault x = 0) : x.data.length ≤ 2000 ∧ (x.kind = 1 → x.target.size = 0) := by
  unfold entFault entFaultN at h
  split at h
  · rename_i h1; exact absurd h h1
  · split at h
    · rename_i h1; exact absurd h h1
    · split at h
      · cases h
      · split at h
        · cases h
        · rename_i h3
          split at h
          · cases h
          · rename_i h4
            refine ⟨by omega, fun hk => ?_⟩
            omega
/-- the node of a member -/
def Ent.nod (x : Ent) (s : Int) : Nod := ⟨x.path, x.kind, s, x.target, x.mt, x.da, x.dcap, x.data⟩
/-- is member i a file that one of the first q is a link to? -/
def linkedTo (l : List Ent) (i q : Nat) : Bool := (List.range q).any fun j => decide ((ek l j).kind = 4) && ((ek l j).target.toList == (ek l i).path.toList) && decide ((ek l i).kind = 1)
theorem linkedTo_succ (l : List Ent) (i q : Nat) : linkedTo l i (q + 1) = (linkedTo l i q || (decide ((ek l q).kind = 4) && ((ek l q).target.toList == (ek l i).path.toList) && decide ((ek l i).kind = 1))) := by
  unfold linkedTo
  rw [List.range_succ, List.any_append]
  simp
def linkAt (l : List Ent) (i : Nat) : Nat := entFind (l.take i) (ek l i).target
/-- the node of member i, the first q known -/
def growN (l : List Ent) (q i : Nat) : Nod :=
  if (ek l i).kind = 4 then { (ek l (linkAt l i)).nod ((linkAt l i : Int) + 1) with path := (ek l i).path } else (ek l i).nod (if linkedTo l i q = true then (i : Int) + 1 else 0)
def growL (l : List Ent) (q : Nat) : List Nod := (List.range q).map (growN l q)
theorem growL_len (l : List Ent) (q : Nat) : (growL l q).length = q := by simp [growL]
theorem growL_at (l : List Ent) {q i : Nat} (h : i < q) : nk (growL l q) i = growN l q i := by
  rw [nk_eq (by rw [growL_len]; exact h)]
  simp [growL]
theorem link_facts {l : List Ent} (h : entsFault l = 0) {i : Nat} (hi : i < l.length) (hk : (ek l i).kind = 4) : linkAt l i < i ∧ (ek l (linkAt l i)).kind = 1 ∧ (ek l (linkAt l i)).mt = (ek l i).mt ∧ (ek l (linkAt l i)).path = (ek l i).target := by
  obtain ⟨h1, h2⟩ := stepE_link0 ((entsFault_all h).2 i hi) hk
  by_cases hf : entFind (l.take i) (ek l i).target < i
  · rw [metGet_yes hf] at h1 h2
    refine ⟨hf, h1, h2, ?_⟩
    have h3 := entFind_lt (l := l.take i) (s := (ek l i).target) (by rw [List.length_take]; omega)
    rw [ek_take hf] at h3
    exact h3
  · rw [metGet_no hf] at h1
    cases h1
theorem growN_file {l : List Ent} {q i : Nat} (h : ¬ (ek l i).kind = 4) : growN l q i = (ek l i).nod (if linkedTo l i q = true then (i : Int) + 1 else 0) := if_neg h
theorem growN_link {l : List Ent} {q i : Nat} (h : (ek l i).kind = 4) : growN l q i = { (ek l (linkAt l i)).nod ((linkAt l i : Int) + 1) with path := (ek l i).path } := if_pos h
/-- a member that is no link changes none of those ahead of it -/
theorem growL_file {l : List Ent} {i : Nat} (hz : entsFault l = 0) (hi : i < l.length) (h : ¬ (ek l i).kind = 4) : growL l (i + 1) = growL l i ++ [(ek l i).nod 0] := by
  have hs : ∀ j, linkedTo l j (i + 1) = linkedTo l j i := fun j => by rw [linkedTo_succ, decide_eq_false h]; simp
  have hn : linkedTo l i i = false := by
    unfold linkedTo
    rw [List.any_eq_false]
    intro j hj
    have hj' := List.mem_range.1 hj
    by_cases hk : (ek l j).kind = 4
    · obtain ⟨h1, h2, h3, h4⟩ := link_facts hz (by omega) hk
      have hne : (ek l j).target ≠ (ek l i).path := by
        rw [← h4]
        exact ents_ne hz (by omega) hi
      simp [seq_f hne]
    · simp [hk]
  unfold growL
  rw [List.range_succ, List.map_append]
  congr 1
  · apply List.map_congr_left
    intro j _
    unfold growN
    rw [hs j]
  · simp only [List.map_cons, List.map_nil]
    rw [growN_file h, hs i, hn]
    rfl
/-- a link tells the file that it is one with -/
theorem growL_link {l : List Ent} {i : Nat} (hz : entsFault l = 0) (hi : i < l.length) (h : (ek l i).kind = 4) : growL l (i + 1) = (growL l i).set (linkAt l i) { growN l i (linkAt l i) with same := (linkAt l i : Int) + 1 } ++ [{ growN l i (linkAt l i) with same := (linkAt l i : Int) + 1, path := (ek l i).path }] := by
  obtain ⟨h1, h2, h3, h4⟩ := link_facts hz hi h
  have hk4 : ¬ (ek l (linkAt l i)).kind = 4 := by rw [h2]; decide
  have e1 : growN l i (linkAt l i) = (ek l (linkAt l i)).nod (if linkedTo l (linkAt l i) i = true then (linkAt l i : Int) + 1 else 0) := growN_file hk4
  have hs : ∀ j, j < i → j ≠ linkAt l i → linkedTo l j (i + 1) = linkedTo l j i := by
    intro j hj hne
    rw [linkedTo_succ]
    have : (ek l i).target ≠ (ek l j).path := by
      rw [← h4]
      intro e
      exact hne (ents_inj hz (by omega) (by omega) e.symm)
    rw [seq_f this]
    simp
  have ht : linkedTo l (linkAt l i) (i + 1) = true := by
    rw [linkedTo_succ, seq_t h4.symm, decide_eq_true h, decide_eq_true h2]
    simp
  apply List.ext_getElem
  · simp [growL]
  · intro j hj1 hj2
    have hj : j < i + 1 := by rw [growL_len] at hj1; exact hj1
    have eL : (growL l (i + 1))[j] = growN l (i + 1) j := by simp [growL]
    rw [eL]
    by_cases hji : j < i
    · rw [List.getElem_append_left (by rw [List.length_set, growL_len]; exact hji), List.getElem_set]
      by_cases hjk : linkAt l i = j
      · rw [if_pos hjk, ← hjk, e1, growN_file hk4, if_pos ht]
        rfl
      · rw [if_neg hjk]
        have eR : (growL l i)[j]'(by rw [growL_len]; exact hji) = growN l i j := by simp [growL]
        rw [eR]
        unfold growN
        rw [hs j hji (fun e => hjk e.symm)]
    · obtain rfl : j = i := by omega
      rw [List.getElem_append_right (by rw [List.length_set, growL_len]; omega)]
      simp only [List.length_set, growL_len, Nat.sub_self, List.getElem_cons_zero]
      rw [growN_link h, e1]
      rfl
def treeGrown (l : List Ent) : List Nod := growL l l.length
noncomputable def grown (l : List Ent) : List Nod × Int := if ¬ entsFault l = 0 then ([], entsFault l) else (treeGrown l, 0)
theorem grown_bad {l : List Ent} (h : ¬ entsFault l = 0) : grown l = ([], entsFault l) := by unfold grown; rw [if_pos h]
theorem grown_ok {l : List Ent} (h : entsFault l = 0) : grown l = (treeGrown l, 0) := by unfold grown; rw [if_neg (by simpa using h)]
/-- the places of the paths met so far -/
def PlaceIs (l : List Ent) (k : Nat) (m : List (ByteArray × Value)) : Prop := ∀ s, assoc s m = if entFind (l.take k) s < k then some (.int .i64 (entFind (l.take k) s)) else none
theorem PlaceIs.start (l : List Ent) : PlaceIs l 0 [] := fun s => rfl
theorem PlaceIs.put {l : List Ent} {k : Nat} {m : List (ByteArray × Value)} (h : PlaceIs l k m) (hk : k < l.length) (hz : entsFault l = 0) : PlaceIs l (k + 1) (assocPut (ek l k).path (.int .i64 k) m) := by
  intro s
  rw [assoc_put]
  by_cases e : s = (ek l k).path
  · rw [if_pos e]
    have hf : entFind (l.take (k + 1)) s = k := by
      refine entFind_at (by rw [List.length_take]; omega) (fun j hj => ?_) (by rw [ek_take (by omega)]; exact e.symm)
      rw [ek_take (by omega), e]
      exact ents_ne hz hj hk
    rw [if_pos (by omega), hf]
  · rw [if_neg e, h s]
    by_cases hf : entFind (l.take k) s < k
    · rw [if_pos hf]
      have h1 := entFind_take hk hf
      rw [if_pos (by omega), h1]
    · rw [if_neg hf]
      have hn := entFind_not (by omega) hf
      have : entFind (l.take (k + 1)) s = k + 1 := entFind_none (by omega) (fun j hj => by
        by_cases ej : j = k
        · rw [ej]; exact fun h => e h.symm
        · exact hn j (by omega))
      rw [if_neg (by omega)]
end Go.Creel
