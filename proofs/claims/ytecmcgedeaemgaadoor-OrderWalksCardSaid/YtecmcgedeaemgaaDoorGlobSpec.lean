/-
  Patterns: the plain words and laws.
-/
import Derived.Test.YtecmcgedeaemgaaDoorPathCheck
namespace Go.Creel
set_option linter.unusedVariables false
/-- the first place of a byte, at j or behind -/
def nextB (s : ByteArray) (c j : Nat) : Nat := j + (List.range (s.size - j)).findIdx (fun k => byt s (j + k) == c)
theorem nextB_ge (s : ByteArray) (c j : Nat) : j ≤ nextB s c j := Nat.le_add_right _ _
theorem nextB_le (s : ByteArray) (c : Nat) {j : Nat} (h : j ≤ s.size) : nextB s c j ≤ s.size := by
  have := List.findIdx_le_length (p := fun k => byt s (j + k) == c) (xs := List.range (s.size - j))
  rw [List.length_range] at this
  unfold nextB
  omega
theorem nextB_at {s : ByteArray} {c j : Nat} (h : nextB s c j < s.size) : byt s (nextB s c j) = c := by
  unfold nextB at h ⊢
  have hw : (List.range (s.size - j)).findIdx (fun k => byt s (j + k) == c) < (List.range (s.size - j)).length := by rw [List.length_range]; omega
  have := List.findIdx_getElem (w := hw)
  rw [List.getElem_range, beq_iff_eq] at this
  exact this
theorem nextB_not {s : ByteArray} {c j k : Nat} (h1 : j ≤ k) (h2 : k < nextB s c j) : byt s k ≠ c := by
  unfold nextB at h2
  have := List.not_of_lt_findIdx (p := fun k => byt s (j + k) == c) (xs := List.range (s.size - j)) (i := k - j) (by omega)
  rw [List.getElem_range] at this
  have e : j + (k - j) = k := by omega
  rw [e] at this
  simpa using this
theorem nextB_eq {s : ByteArray} {c j m : Nat} (h1 : j ≤ m) (h2 : m ≤ s.size) (h3 : ∀ k, j ≤ k → k < m → byt s k ≠ c) (h4 : m < s.size → byt s m = c) : nextB s c j = m := by
  have hg := nextB_ge s c j
  have hl := nextB_le s c (Nat.le_trans h1 h2)
  rcases Nat.lt_trichotomy (nextB s c j) m with h | h | h
  · exact absurd (nextB_at (by omega)) (h3 _ hg h)
  · exact h
  · exact absurd (h4 (by omega)) (nextB_not h1 h)
theorem nextB_past {s : ByteArray} {c j : Nat} (h : s.size ≤ j) : nextB s c j = j := by
  unfold nextB
  have : s.size - j = 0 := by omega
  rw [this]
  rfl
theorem byt_behind {s : ByteArray} {k : Nat} (h : s.size ≤ k) : byt s k = 0 := by
  unfold byt
  rw [List.getD_eq_getElem?_getD, List.getElem?_eq_none (by simpa using h)]
  rfl
theorem byt_tail (s : ByteArray) (i k : Nat) : byt (s.extract i s.size) k = byt s (i + k) := by
  unfold byt
  rw [Lib.extract_data, List.getD_eq_getElem?_getD, List.getD_eq_getElem?_getD]
  have : ((s.data.toList.drop i).take (s.size - i)) = s.data.toList.drop i := List.take_of_length_le (by simp)
  rw [this, List.getElem?_drop]
theorem size_tail (s : ByteArray) (i : Nat) : (s.extract i s.size).size = s.size - i := by simp
theorem tail_tail (s : ByteArray) (i k : Nat) : (s.extract i s.size).extract k (s.size - i) = s.extract (i + k) s.size := by
  apply ext_bytes
  rw [Lib.extract_data, Lib.extract_data, Lib.extract_data]
  rw [List.take_of_length_le (l := s.data.toList.drop i) (by simp), List.drop_drop]
  rw [List.take_of_length_le (by simp; omega), List.take_of_length_le (by simp)]
theorem nextB_tail (s : ByteArray) (c i j : Nat) (h : i ≤ s.size) : nextB (s.extract i s.size) c j + i = nextB s c (i + j) := by
  by_cases hj : i + j ≤ s.size
  · symm
    have hl := nextB_le (s.extract i s.size) c (j := j) (by rw [size_tail]; omega)
    have hg := nextB_ge (s.extract i s.size) c j
    rw [size_tail] at hl
    refine nextB_eq (by omega) (by omega) (fun k h1 h2 => ?_) (fun h1 => ?_)
    · have := nextB_not (s := s.extract i s.size) (c := c) (j := j) (k := k - i) (by omega) (by omega)
      rw [byt_tail] at this
      have e : i + (k - i) = k := by omega
      rwa [e] at this
    · have := nextB_at (s := s.extract i s.size) (c := c) (j := j) (by rw [size_tail]; omega)
      rw [byt_tail, Nat.add_comm] at this
      exact this
  · rw [nextB_past (s := s) (by omega), nextB_past (by rw [size_tail]; omega)]
    omega
/-- a sign of a pattern: a star, or bytes that fit -/
structure Tok where
  star : Bool
  fits : Nat → Bool
def setNot (s : ByteArray) (i : Nat) : Bool := decide (i + 1 < s.size) && (byt s (i + 1) == 33)
def setFrom (s : ByteArray) (i : Nat) : Nat := if setNot s i = true then i + 2 else i + 1
def setEnd (s : ByteArray) (i : Nat) : Nat := nextB s 93 (setFrom s i + 1)
def isRange (s : ByteArray) (k : Nat) : Bool := decide (k + 2 < s.size) && (byt s (k + 1) == 45) && !(byt s (k + 2) == 93)
def rangeHigh (s : ByteArray) (k : Nat) : Nat := if isRange s k = true then byt s (k + 2) else byt s k
def rangeNext (s : ByteArray) (k : Nat) : Nat := if isRange s k = true then k + 3 else k + 1
/-- is a byte in what a set has at k or behind? -/
def setIn (s : ByteArray) (a k c : Nat) : Bool :=
  if h : k < s.size ∧ (k = a ∨ byt s k ≠ 93) then (decide (byt s k ≤ c) && decide (c ≤ rangeHigh s k)) || setIn s a (rangeNext s k) c else false
  termination_by s.size - k
  decreasing_by unfold rangeNext; split <;> omega
theorem setIn_more {s : ByteArray} {a k : Nat} (c : Nat) (h : k < s.size ∧ (k = a ∨ byt s k ≠ 93)) : setIn s a k c = ((decide (byt s k ≤ c) && decide (c ≤ rangeHigh s k)) || setIn s a (rangeNext s k) c) := by
  rw [setIn, dif_pos h]
theorem setIn_end {s : ByteArray} {a k : Nat} (c : Nat) (h : ¬ (k < s.size ∧ (k = a ∨ byt s k ≠ 93))) : setIn s a k c = false := by
  rw [setIn, dif_neg h]
theorem setFrom_gt (s : ByteArray) (i : Nat) : i + 1 ≤ setFrom s i := by unfold setFrom; split <;> omega
theorem setFrom_le {s : ByteArray} {i : Nat} (h : i < s.size) : setFrom s i ≤ s.size := by
  unfold setFrom setNot
  split
  · rename_i e
    simp only [Bool.and_eq_true, decide_eq_true_eq] at e
    omega
  · omega
theorem setEnd_gt (s : ByteArray) (i : Nat) : i + 2 ≤ setEnd s i := by
  have h1 := setFrom_gt s i
  have h2 := nextB_ge s 93 (setFrom s i + 1)
  unfold setEnd
  omega
/-- how far a loop over a set is: no end has been met -/
def SetAt (s : ByteArray) (i k : Nat) : Prop := setFrom s i ≤ k ∧ k ≤ s.size ∧ ∀ j, setFrom s i + 1 ≤ j → j < k → byt s j ≠ 93
theorem SetAt.start {s : ByteArray} {i : Nat} (h : i < s.size) : SetAt s i (setFrom s i) := ⟨Nat.le_refl _, setFrom_le h, fun j h1 h2 => by omega⟩
theorem SetAt.next {s : ByteArray} {i k : Nat} (h : SetAt s i k) (hk : k < s.size) (hc : k = setFrom s i ∨ byt s k ≠ 93) : SetAt s i (rangeNext s k) ∧ k < rangeNext s k := by
  obtain ⟨h1, h2, h3⟩ := h
  unfold rangeNext isRange
  split
  · rename_i e
    simp only [Bool.and_eq_true, decide_eq_true_eq, beq_iff_eq, Bool.not_eq_true', beq_eq_false_iff_ne] at e
    refine ⟨⟨by omega, by omega, fun j h4 h5 => ?_⟩, by omega⟩
    by_cases e1 : j < k
    · exact h3 j h4 e1
    · by_cases e2 : j = k
      · subst e2; rcases hc with e3 | e3
        · omega
        · exact e3
      · by_cases e3 : j = k + 1
        · rw [e3, e.1.2]; decide
        · have e4 : j = k + 2 := by omega
          rw [e4]; exact e.2
  · refine ⟨⟨by omega, by omega, fun j h4 h5 => ?_⟩, by omega⟩
    by_cases e1 : j < k
    · exact h3 j h4 e1
    · have e2 : j = k := by omega
      subst e2; rcases hc with e3 | e3
      · omega
      · exact e3
theorem SetAt.good {s : ByteArray} {i k : Nat} (h : SetAt s i k) (hk : k < s.size) (h1 : k ≠ setFrom s i) (h2 : byt s k = 93) : setEnd s i = k := nextB_eq (by have := h.1; omega) h.2.1 h.2.2 (fun _ => h2)
theorem SetAt.bad {s : ByteArray} {i : Nat} (h : SetAt s i s.size) : s.size ≤ setEnd s i := by
  unfold setEnd
  by_cases e : setFrom s i + 1 ≤ s.size
  · rw [nextB_eq e (Nat.le_refl _) h.2.2 (fun h => by omega)]
    exact Nat.le_refl _
  · rw [nextB_past (by omega)]
    omega
def tokAt (s : ByteArray) (i : Nat) : Tok := ⟨byt s i == 42, fun c => if byt s i = 63 then true else if byt s i = 91 then (setNot s i != setIn s (setFrom s i) (setFrom s i) c) else c == byt s i⟩
def tokNext (s : ByteArray) (i : Nat) : Nat := if byt s i = 91 then setEnd s i + 1 else i + 1
def tokBad (s : ByteArray) (i : Nat) : Prop := byt s i = 91 ∧ s.size ≤ setEnd s i
instance (s : ByteArray) (i : Nat) : Decidable (tokBad s i) := by unfold tokBad; infer_instance
theorem tokNext_gt (s : ByteArray) (i : Nat) : i < tokNext s i := by
  have := setEnd_gt s i
  unfold tokNext
  split <;> omega
theorem tokNext_le {s : ByteArray} {i : Nat} (h : i < s.size) (hb : ¬ tokBad s i) : tokNext s i ≤ s.size := by
  unfold tokBad at hb
  unfold tokNext
  split
  · rename_i e
    have : ¬ s.size ≤ setEnd s i := fun h => hb ⟨e, h⟩
    omega
  · omega
/-- the signs of a pattern, at i or behind -/
def toks (s : ByteArray) (i : Nat) : Option (List Tok) :=
  if h : i < s.size then if tokBad s i then none else (toks s (tokNext s i)).map (tokAt s i :: ·) else some []
  termination_by s.size - i
  decreasing_by have := tokNext_gt s i; omega
theorem toks_end {s : ByteArray} {i : Nat} (h : s.size ≤ i) : toks s i = some [] := by rw [toks, dif_neg (by omega)]
theorem toks_bad {s : ByteArray} {i : Nat} (h : i < s.size) (hb : tokBad s i) : toks s i = none := by rw [toks, dif_pos h, if_pos hb]
theorem toks_more {s : ByteArray} {i : Nat} (h : i < s.size) (hb : ¬ tokBad s i) : toks s i = (toks s (tokNext s i)).map (tokAt s i :: ·) := by rw [toks, dif_pos h, if_neg hb]
def okAt (s : ByteArray) (i : Nat) : Bool := (toks s i).isSome
theorem okAt_end {s : ByteArray} {i : Nat} (h : s.size ≤ i) : okAt s i = true := by unfold okAt; rw [toks_end h]; rfl
theorem okAt_bad {s : ByteArray} {i : Nat} (h : i < s.size) (hb : tokBad s i) : okAt s i = false := by unfold okAt; rw [toks_bad h hb]; rfl
theorem okAt_more {s : ByteArray} {i : Nat} (h : i < s.size) (hb : ¬ tokBad s i) : okAt s i = okAt s (tokNext s i) := by unfold okAt; rw [toks_more h hb, Option.isSome_map]
/-- two stars are a pattern -/
theorem okAt_stars {s : ByteArray} {i : Nat} (h : s.size = i + 2) (h0 : byt s i = 42) (h1 : byt s (i + 1) = 42) : okAt s i = true := by
  have hb : ∀ k, byt s k = 42 → ¬ tokBad s k := fun k e h => by unfold tokBad at h; omega
  have hn : ∀ k, byt s k = 42 → tokNext s k = k + 1 := fun k e => by unfold tokNext; rw [if_neg (by omega)]
  rw [okAt_more (by omega) (hb _ h0), hn _ h0, okAt_more (by omega) (hb _ h1), hn _ h1]
  exact okAt_end (by omega)
/-- the signs so far, and those behind -/
def ToksAt (s : ByteArray) (i : Nat) (l : List Tok) : Prop := i ≤ s.size ∧ l.length ≤ i ∧ toks s 0 = (toks s i).map (l ++ ·)
theorem ToksAt.start (s : ByteArray) : ToksAt s 0 [] := ⟨Nat.zero_le _, Nat.le_refl _, by cases toks s 0 <;> rfl⟩
theorem ToksAt.next {s : ByteArray} {i : Nat} {l : List Tok} (h : ToksAt s i l) (hi : i < s.size) (hb : ¬ tokBad s i) : ToksAt s (tokNext s i) (l ++ [tokAt s i]) := by
  have hg := tokNext_gt s i
  refine ⟨tokNext_le hi hb, by have := h.2.1; simp; omega, ?_⟩
  rw [h.2.2, toks_more hi hb]
  cases toks s (tokNext s i) <;> simp
theorem ToksAt.bad {s : ByteArray} {i : Nat} {l : List Tok} (h : ToksAt s i l) (hi : i < s.size) (hb : tokBad s i) : toks s 0 = none := by rw [h.2.2, toks_bad hi hb]; rfl
theorem ToksAt.done {s : ByteArray} {l : List Tok} (h : ToksAt s s.size l) : toks s 0 = some l := by rw [h.2.2, toks_end (Nat.le_refl _)]; simp
/-- what is wrong with a part of a pattern -/
def wrongG (p : ByteArray) : Int := if p.size = 0 then 9 else if okAt p 0 = true then 0 else 3
theorem wrongG_empty {p : ByteArray} (h : p.size = 0) : wrongG p = 9 := if_pos h
theorem wrongG_bad {p : ByteArray} (h : ¬ p.size = 0) (h2 : okAt p 0 = false) : wrongG p = 3 := by unfold wrongG; rw [if_neg h, if_neg (by rw [h2]; simp)]
theorem wrongG_ok {p : ByteArray} (h : ¬ p.size = 0) (h2 : okAt p 0 = true) : wrongG p = 0 := by unfold wrongG; rw [if_neg h, if_pos h2]
def firstG : List ByteArray → Int
  | [] => 0
  | p :: l => if wrongG p = 0 then firstG l else wrongG p
theorem firstG_bad : ∀ {l : List ByteArray} {k : Nat}, k < l.length → (∀ j, j < k → wrongG (piece l j) = 0) → ¬ wrongG (piece l k) = 0 → firstG l = wrongG (piece l k)
  | [], k, h, _, _ => absurd h (by simp)
  | p :: l, 0, _, _, h => by
    have h' : ¬ wrongG p = 0 := h
    unfold firstG
    rw [if_neg h']
    rfl
  | p :: l, k + 1, h, h0, h1 => by
    have e : wrongG p = 0 := h0 0 (by omega)
    have ih := firstG_bad (l := l) (k := k) (by simpa using h) (fun j hj => h0 (j + 1) (by omega)) h1
    unfold firstG
    rw [if_pos e, ih]
    rfl
theorem firstG_ok : ∀ {l : List ByteArray}, (∀ j, j < l.length → wrongG (piece l j) = 0) → firstG l = 0
  | [], _ => rfl
  | p :: l, h => by
    have e : wrongG p = 0 := h 0 (by simp)
    have ih := firstG_ok (l := l) (fun j hj => h (j + 1) (by simpa using hj))
    unfold firstG
    rw [if_pos e, ih]
def globFault (s : ByteArray) : Int := if s.size < 1 ∨ 400 < s.size then 1 else firstG (partsS 47 s)
theorem globFault_size {s : ByteArray} (h : s.size < 1 ∨ 400 < s.size) : globFault s = 1 := if_pos h
theorem globFault_bad {s : ByteArray} (h : ¬ (s.size < 1 ∨ 400 < s.size)) {k : Nat} (hk : k < (partsS 47 s).length) (h0 : ∀ j, j < k → wrongG (piece (partsS 47 s) j) = 0) (h1 : ¬ wrongG (piece (partsS 47 s) k) = 0) : globFault s = wrongG (piece (partsS 47 s) k) := by
  unfold globFault
  rw [if_neg h]
  exact firstG_bad hk h0 h1
theorem globFault_ok {s : ByteArray} (h : ¬ (s.size < 1 ∨ 400 < s.size)) (h0 : ∀ j, j < (partsS 47 s).length → wrongG (piece (partsS 47 s) j) = 0) : globFault s = 0 := by
  unfold globFault
  rw [if_neg h]
  exact firstG_ok h0
/-- a set's end, as the program finds it in a text that begins with the set -/
def endOf (q : ByteArray) : Int := if setEnd q 0 < q.size then (setEnd q 0 : Int) + 1 else -1
theorem setNot_tail (s : ByteArray) {i : Nat} (h : i < s.size) : setNot (s.extract i s.size) 0 = setNot s i := by
  unfold setNot
  rw [size_tail, byt_tail]
  congr 1
  · exact decide_eq_decide.2 ⟨fun h => by omega, fun h => by omega⟩
theorem setEnd_tail (s : ByteArray) {i : Nat} (h : i < s.size) : setEnd (s.extract i s.size) 0 + i = setEnd s i := by
  unfold setEnd setFrom
  rw [setNot_tail s h]
  split
  · rw [nextB_tail s 93 i _ (by omega)]
  · rw [nextB_tail s 93 i _ (by omega)]
theorem endOf_bad {s : ByteArray} {i : Nat} (h : i < s.size) (hb : s.size ≤ setEnd s i) : endOf (s.extract i s.size) = -1 := by
  have := setEnd_tail s h
  unfold endOf
  rw [size_tail, if_neg (by omega)]
theorem endOf_ok {s : ByteArray} {i : Nat} (h : i < s.size) (hb : ¬ s.size ≤ setEnd s i) : endOf (s.extract i s.size) = ((setEnd s i + 1 - i : Nat) : Int) := by
  have := setEnd_tail s h
  have := setEnd_gt s i
  unfold endOf
  rw [size_tail, if_pos (by omega)]
  omega
/-- where IndexByte finds the end -/
theorem idx_next {s : ByteArray} {j : Nat} (h : j ≤ s.size) : (firstIdx (s.extract j s.size) 93 = -1 ∧ nextB s 93 j = s.size) ∨ (firstIdx (s.extract j s.size) 93 = ((nextB s 93 j - j : Nat) : Int) ∧ nextB s 93 j < s.size) := by
  rcases idx_lt (s := s.extract j s.size) (c := 93) with h1 | ⟨i, h1, h2, h3, h4⟩
  · left
    have hh : hasB (s.extract j s.size) 93 = false := by
      cases e : hasB (s.extract j s.size) 93 with
      | false => rfl
      | true => have := idx_ge e; omega
    refine ⟨idx_none hh, ?_⟩
    refine nextB_eq h (Nat.le_refl _) (fun k h5 h6 => ?_) (fun h => by omega)
    have := hasB_no hh (k - j) (by rw [size_tail]; omega)
    rw [byt_tail] at this
    have e : j + (k - j) = k := by omega
    rwa [e] at this
  · right
    rw [size_tail] at h2
    rw [byt_tail] at h3
    have e : nextB s 93 j = j + i := by
      refine nextB_eq (by omega) (by omega) (fun k h5 h6 => ?_) (fun _ => h3)
      have := h4 (k - j) (by omega)
      rw [byt_tail] at this
      have e : j + (k - j) = k := by omega
      rwa [e] at this
    rw [h1, e]
    refine ⟨?_, by omega⟩
    omega
end Go.Creel
