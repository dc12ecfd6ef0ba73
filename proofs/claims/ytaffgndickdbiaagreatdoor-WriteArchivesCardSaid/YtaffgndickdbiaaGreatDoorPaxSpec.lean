/-
  Records, many (P7.1, P7.2): the plain words.
-/
import Derived.Test.YtaffgndickdbiaaGreatDoorRecW
import Derived.Test.YtaffgndickdbiaaGreatDoorRecs
namespace Go.Creel
set_option linter.unusedVariables false
set_option linter.unusedSimpArgs false
open Go.RowKit
/-- the first of n steps that is not 0 -/
def firstF (step : Nat → Int) : Nat → Int
  | 0 => 0
  | n + 1 => if firstF step n = 0 then step n else firstF step n
theorem firstF_ok {step : Nat → Int} : ∀ {n : Nat}, (∀ j, j < n → step j = 0) → firstF step n = 0
  | 0, _ => rfl
  | n + 1, h => by
    have ih := firstF_ok (n := n) (fun j hj => h j (by omega))
    simp only [firstF]
    rw [if_pos ih]
    exact h n (by omega)
theorem firstF_at {step : Nat → Int} {k : Nat} (hz : ∀ j, j < k → step j = 0) (hne : step k ≠ 0) : ∀ {n : Nat}, k < n → firstF step n = step k
  | 0, h => absurd h (by omega)
  | n + 1, h => by
    simp only [firstF]
    by_cases e : k = n
    · subst e
      rw [if_pos (firstF_ok hz)]
    · have ih := firstF_at hz hne (n := n) (by omega)
      rw [if_neg (by rw [ih]; exact hne), ih]
theorem firstF_all {step : Nat → Int} : ∀ {n : Nat}, firstF step n = 0 → ∀ j, j < n → step j = 0
  | 0, _, j, hj => absurd hj (by omega)
  | n + 1, h, j, hj => by
    simp only [firstF] at h
    by_cases e : firstF step n = 0
    · rw [if_pos e] at h
      by_cases ej : j = n
      · rw [ej]; exact h
      · exact firstF_all e j (by omega)
    · rw [if_neg e] at h; exact absurd h e
def leS (a b : ByteArray) : Bool := Op.bytesLess a.toList b.toList || a.toList == b.toList
theorem leS_a {a b : ByteArray} (h : Op.bytesLess a.toList b.toList = true) : leS a b = true := by unfold leS; rw [h]; rfl
theorem leS_b {a b : ByteArray} (h : (a.toList == b.toList) = true) : leS a b = true := by unfold leS; rw [h]; simp
theorem leS_c {a b : ByteArray} (h : Op.bytesLess a.toList b.toList = false) (h2 : (a.toList == b.toList) = false) : leS a b = false := by unfold leS; rw [h, h2]; rfl
theorem leS_empty {a : ByteArray} (h : 1 ≤ a.size) : Op.bytesLess a.toList [] = false ∧ a.toList.isEmpty = false := by
  have hl : a.toList.length = a.size := by rw [Lib.toList_data]; exact (Lib.size_eq a).symm
  cases hh : a.toList with
  | nil => rw [hh] at hl; simp at hl; omega
  | cons x r => exact ⟨rfl, rfl⟩
def stepP (l : List Rec) (k : Nat) : Int :=
  if recFault (rk l k) ≠ 0 then recFault (rk l k) else if 0 < k ∧ leS (rk l k).key (rk l (k - 1)).key = true then 6 else 0
def paxFault (l : List Rec) : Int := if 12 < l.length then 1 else firstF (stepP l) l.length
def paxBytes (l : List Rec) : List UInt8 := (l.map fun r => (recText r).data.toList).flatten
def paxWrite (l : List Rec) : ByteArray × Int := if paxFault l = 0 then (ofL (paxBytes l), 0) else (ByteArray.empty, paxFault l)
theorem paxWrite_bad {l : List Rec} (h : paxFault l ≠ 0) : paxWrite l = (ByteArray.empty, paxFault l) := by unfold paxWrite; rw [if_neg h]
theorem paxWrite_ok {l : List Rec} (h : paxFault l = 0) : paxWrite l = (ofL (paxBytes l), 0) := by unfold paxWrite; rw [if_pos h]
theorem paxFault_many {l : List Rec} (h : 12 < l.length) : paxFault l = 1 := by unfold paxFault; rw [if_pos h]
theorem paxFault_at {l : List Rec} {k : Nat} {e : Int} (hl : l.length ≤ 12) (hk : k < l.length) (hz : ∀ j, j < k → stepP l j = 0) (he : stepP l k = e) (hne : e ≠ 0) : paxFault l = e := by
  unfold paxFault; rw [if_neg (by omega), firstF_at hz (by rw [he]; exact hne) hk, he]
theorem paxFault_ok {l : List Rec} (hl : l.length ≤ 12) (hz : ∀ j, j < l.length → stepP l j = 0) : paxFault l = 0 := by
  unfold paxFault; rw [if_neg (by omega), firstF_ok hz]
theorem paxFault_all {l : List Rec} (h : paxFault l = 0) : l.length ≤ 12 ∧ ∀ k, k < l.length → stepP l k = 0 := by
  have hl : l.length ≤ 12 := by
    rcases Nat.lt_or_ge 12 l.length with e | e
    · rw [paxFault_many e] at h; cases h
    · exact e
  refine ⟨hl, ?_⟩
  unfold paxFault at h
  rw [if_neg (by omega)] at h
  exact firstF_all h
theorem stepP_rec {l : List Rec} {k : Nat} {e : Int} (he : recFault (rk l k) = e) (h : e ≠ 0) : stepP l k = e := by unfold stepP; rw [if_pos (by rw [he]; exact h), he]
theorem stepP_le {l : List Rec} {k : Nat} (h : recFault (rk l k) = 0) (h0 : 0 < k) (h1 : leS (rk l k).key (rk l (k - 1)).key = true) : stepP l k = 6 := by unfold stepP; rw [if_neg (by rw [h]; simp), if_pos ⟨h0, h1⟩]
theorem stepP_ok {l : List Rec} {k : Nat} (h : recFault (rk l k) = 0) (h0 : 0 < k → leS (rk l k).key (rk l (k - 1)).key = false) : stepP l k = 0 := by
  unfold stepP
  rw [if_neg (by rw [h]; simp), if_neg]
  rintro ⟨a, b⟩
  rw [h0 a] at b; cases b
theorem stepP_zero {l : List Rec} {k : Nat} (h : stepP l k = 0) : recFault (rk l k) = 0 := by
  unfold stepP at h
  by_cases e : recFault (rk l k) = 0
  · exact e
  · rw [if_pos e] at h; exact h
theorem rk_drop {l : List Rec} {k : Nat} (h : k < l.length) : l.drop k = rk l k :: l.drop (k + 1) := by
  rw [List.drop_eq_getElem_cons h]
  simp [rk, List.getD_eq_getElem?_getD, List.getElem?_eq_getElem h]
theorem rk_take {l : List Rec} {k : Nat} (h : k < l.length) : l.take (k + 1) = l.take k ++ [rk l k] := by
  rw [List.take_add_one, List.getElem?_eq_getElem h]
  simp [rk, List.getD_eq_getElem?_getD, List.getElem?_eq_getElem h]
theorem paxBytes_take {l : List Rec} {k : Nat} (h : k < l.length) : paxBytes (l.take (k + 1)) = paxBytes (l.take k) ++ (recText (rk l k)).data.toList := by
  rw [rk_take h]; simp [paxBytes]
theorem paxBytes_drop {l : List Rec} {k : Nat} (h : k < l.length) : ofL (paxBytes (l.drop k)) = recText (rk l k) ++ ofL (paxBytes (l.drop (k + 1))) := by
  rw [rk_drop h]
  apply ext_bytes
  simp [paxBytes, ofL]
theorem recText_size {r : Rec} (h : recFault r = 0) : (recText r).size ≤ 566 := by
  obtain ⟨_, h1, h2, _⟩ := recFault_ok h
  have ht := recTail_size r
  have hb := recN_bd (recTail r).size
  have := dlen_cases (n := recN (recTail r).size) (by omega)
  unfold recText
  rw [ByteArray.size_append, ofL_size]
  omega
theorem paxBytes_le {l : List Rec} (h : ∀ r ∈ l, recFault r = 0) : (paxBytes l).length ≤ 566 * l.length := by
  induction l with
  | nil => simp [paxBytes]
  | cons a t ih =>
    have h1 := recText_size (h a (by simp))
    have h2 := ih (fun r hr => h r (by simp [hr]))
    have : (recText a).data.toList.length = (recText a).size := (Lib.size_eq _).symm
    simp only [paxBytes, List.map_cons, List.flatten_cons, List.length_append, List.length_cons] at h2 ⊢
    omega
theorem pax_all {l : List Rec} (h : paxFault l = 0) : ∀ r ∈ l, recFault r = 0 := by
  intro r hr
  obtain ⟨k, hk, rfl⟩ := List.getElem_of_mem hr
  have := stepP_zero ((paxFault_all h).2 k hk)
  simpa [rk, List.getD_eq_getElem?_getD, List.getElem?_eq_getElem hk] using this
end Go.Creel
