/-
  Signs of patterns, each by itself: plain laws.
-/
import Derived.Test.YtecmcgedeaemgaaDoorGlobSpec
namespace Go.Creel
set_option linter.unusedVariables false
theorem byt_part (s : ByteArray) {i e k : Nat} (h : i + k < e) : byt (s.extract i e) k = byt s (i + k) := by
  unfold byt
  rw [Lib.extract_data, List.getD_eq_getElem?_getD, List.getD_eq_getElem?_getD, List.getElem?_take_of_lt (by omega), List.getElem?_drop]
theorem size_part (s : ByteArray) {i e : Nat} (h : e ≤ s.size) : (s.extract i e).size = e - i := by simp; omega
theorem SetAt.le {s : ByteArray} {i k : Nat} (h : SetAt s i k) (he : setEnd s i < s.size) : k ≤ setEnd s i := by
  rcases Nat.lt_or_ge (setEnd s i) k with h1 | h1
  · exact absurd (nextB_at he) (h.2.2 _ (nextB_ge s 93 (setFrom s i + 1)) h1)
  · exact h1
theorem setNot_part (s : ByteArray) {i e : Nat} (h : i + 1 < e) (he : e ≤ s.size) : setNot (s.extract i e) 0 = setNot s i := by
  unfold setNot
  rw [size_part s he, byt_part s (by omega)]
  congr 1
  exact decide_eq_decide.2 ⟨fun h => by omega, fun h => by omega⟩
theorem setFrom_part (s : ByteArray) {i e : Nat} (h : i + 1 < e) (he : e ≤ s.size) : setFrom (s.extract i e) 0 + i = setFrom s i := by
  unfold setFrom
  rw [setNot_part s h he]
  split <;> omega
theorem setEnd_part (s : ByteArray) {i : Nat} (he : setEnd s i < s.size) : setEnd (s.extract i (setEnd s i + 1)) 0 + i = setEnd s i := by
  have hg := setEnd_gt s i
  have hf := setFrom_part s (i := i) (e := setEnd s i + 1) (by omega) (by omega)
  have hge := nextB_ge s 93 (setFrom s i + 1)
  have hge' : setFrom s i + 1 ≤ setEnd s i := hge
  have hsz := size_part s (i := i) (e := setEnd s i + 1) (by omega)
  have key : setEnd (s.extract i (setEnd s i + 1)) 0 = setEnd s i - i := by
    show nextB (s.extract i (setEnd s i + 1)) 93 (setFrom (s.extract i (setEnd s i + 1)) 0 + 1) = _
    refine nextB_eq (by omega) (by omega) (fun k h1 h2 => ?_) (fun _ => ?_)
    · rw [byt_part s (by omega)]
      exact nextB_not (j := setFrom s i + 1) (by omega) (show i + k < setEnd s i by omega)
    · rw [byt_part s (by omega)]
      have e : i + (setEnd s i - i) = setEnd s i := by omega
      rw [e]
      exact nextB_at he
  omega
theorem isRange_part {s : ByteArray} {i k : Nat} (he : setEnd s i < s.size) (h0 : i ≤ k) (hk : k < setEnd s i) : isRange (s.extract i (setEnd s i + 1)) (k - i) = isRange s k := by
  have hsz := size_part s (i := i) (e := setEnd s i + 1) (by omega)
  unfold isRange
  rw [hsz]
  by_cases h : k + 2 ≤ setEnd s i
  · rw [byt_part s (by omega), byt_part s (by omega)]
    have e1 : i + (k - i + 1) = k + 1 := by omega
    have e2 : i + (k - i + 2) = k + 2 := by omega
    rw [e1, e2]
    congr 2
    exact decide_eq_decide.2 ⟨fun h => by omega, fun h => by omega⟩
  · have e : byt s (k + 1) = 93 := by
      have e1 : k + 1 = setEnd s i := by omega
      rw [e1]
      exact nextB_at he
    have h1 : (byt s (k + 1) == 45) = false := by rw [e]; rfl
    have h2 : decide (k - i + 2 < setEnd s i + 1 - i) = false := decide_eq_false (by omega)
    rw [h1, h2]
    simp
theorem setIn_part {s : ByteArray} {i : Nat} (hi : i < s.size) (he : setEnd s i < s.size) (c : Nat) : ∀ (d k : Nat), SetAt s i k → setEnd s i - k = d → setIn (s.extract i (setEnd s i + 1)) (setFrom s i - i) (k - i) c = setIn s (setFrom s i) k c := by
  have hsz := size_part s (i := i) (e := setEnd s i + 1) (by omega)
  have hge : setFrom s i + 1 ≤ setEnd s i := nextB_ge s 93 (setFrom s i + 1)
  have hf := setFrom_gt s i
  intro d
  induction d using Nat.strongRecOn with
  | ind d ih =>
    intro k hk hd
    have hle := hk.le he
    have h1 := hk.1
    by_cases hlt : k < setEnd s i
    · have hc : k = setFrom s i ∨ byt s k ≠ 93 := by
        by_cases e : k = setFrom s i
        · exact .inl e
        · exact .inr (nextB_not (j := setFrom s i + 1) (by omega) hlt)
      have hb : byt (s.extract i (setEnd s i + 1)) (k - i) = byt s k := by
        rw [byt_part s (by omega)]; congr 1; omega
      obtain ⟨hn1, hn2⟩ := hk.next (by omega) hc
      have hr := isRange_part he (by omega : i ≤ k) hlt
      have hhi : rangeHigh (s.extract i (setEnd s i + 1)) (k - i) = rangeHigh s k := by
        unfold rangeHigh
        rw [hr, hb]
        split
        · rename_i e
          have hx : k + 2 ≤ setEnd s i := by
            unfold rangeNext at hn1
            rw [if_pos e] at hn1
            have := hn1.le he
            omega
          rw [byt_part s (by omega)]; congr 1; omega
        · rfl
      have hnx : rangeNext (s.extract i (setEnd s i + 1)) (k - i) = rangeNext s k - i := by
        unfold rangeNext
        rw [hr]
        split <;> omega
      rw [setIn_more c (s := s.extract i (setEnd s i + 1)) ⟨by omega, by rw [hb]; rcases hc with e | e; exact .inl (by omega); exact .inr e⟩, setIn_more c (s := s) ⟨by omega, hc⟩, hb, hhi, hnx]
      congr 1
      exact ih _ (by have := hn1.le he; omega) _ hn1 rfl
    · have e : k = setEnd s i := by omega
      have hb : byt s k = 93 := by rw [e]; exact nextB_at he
      rw [setIn_end c, setIn_end c]
      · rintro ⟨_, h | h⟩
        · omega
        · exact h hb
      · rintro ⟨_, h | h⟩
        · omega
        · rw [byt_part s (by omega)] at h
          have e2 : i + (k - i) = k := by omega
          rw [e2] at h
          exact h hb
/-- the text of a sign of a pattern -/
def tokText (s : ByteArray) (i : Nat) : ByteArray := s.extract i (tokNext s i)
theorem tokText_size {s : ByteArray} {i : Nat} (hi : i < s.size) (hb : ¬ tokBad s i) : (tokText s i).size = tokNext s i - i := size_part s (tokNext_le hi hb)
theorem tokText_head {s : ByteArray} {i : Nat} : byt (tokText s i) 0 = byt s i := by
  have := tokNext_gt s i
  unfold tokText
  rw [byt_part s (by omega)]
  rfl
/-- what a sign says of a byte, by its text alone -/
theorem tokText_fits {s : ByteArray} {i : Nat} (hi : i < s.size) (hb : ¬ tokBad s i) (c : Nat) : (tokAt (tokText s i) 0).fits c = (tokAt s i).fits c := by
  unfold tokAt
  simp only
  rw [tokText_head]
  by_cases h1 : byt s i = 63
  · rw [if_pos h1, if_pos h1]
  · rw [if_neg h1, if_neg h1]
    by_cases h2 : byt s i = 91
    · rw [if_pos h2, if_pos h2]
      have he : setEnd s i < s.size := by
        unfold tokBad at hb
        rcases Nat.lt_or_ge (setEnd s i) s.size with h | h
        · exact h
        · exact absurd ⟨h2, h⟩ hb
      have hg := setEnd_gt s i
      have et : tokText s i = s.extract i (setEnd s i + 1) := by unfold tokText tokNext; rw [if_pos h2]
      have hf := setFrom_part s (i := i) (e := setEnd s i + 1) (by omega) (by omega)
      have ef : setFrom (s.extract i (setEnd s i + 1)) 0 = setFrom s i - i := by omega
      rw [et, setNot_part s (by omega) (by omega), ef, setIn_part hi he c _ _ (SetAt.start hi) rfl]
    · rw [if_neg h2, if_neg h2]
/-- a set by itself: its end is its end -/
theorem tokText_set {s : ByteArray} {i : Nat} (hi : i < s.size) (hb : ¬ tokBad s i) (h2 : byt s i = 91) : setEnd (tokText s i) 0 + 1 = (tokText s i).size := by
  have he : setEnd s i < s.size := by
    unfold tokBad at hb
    rcases Nat.lt_or_ge (setEnd s i) s.size with h | h
    · exact h
    · exact absurd ⟨h2, h⟩ hb
  have et : tokText s i = s.extract i (setEnd s i + 1) := by unfold tokText tokNext; rw [if_pos h2]
  have hg := setEnd_gt s i
  rw [et, size_part s (by omega)]
  have := setEnd_part s he
  omega
theorem tokText_star {s : ByteArray} {i : Nat} (hi : i < s.size) (hb : ¬ tokBad s i) : ((tokText s i).toList == [42]) = (tokAt s i).star := by
  have hsz := tokText_size hi hb
  have hh := tokText_head (s := s) (i := i)
  rw [Bool.eq_iff_iff, beq_iff_eq]
  show _ ↔ (byt s i == 42) = true
  rw [beq_iff_eq, Lib.toList_data]
  constructor
  · intro e
    rw [← hh]
    unfold byt
    rw [e]
    rfl
  · intro e
    have hn : tokNext s i = i + 1 := by unfold tokNext; rw [if_neg (by omega)]
    have hl : (tokText s i).data.toList.length = 1 := by rw [← Lib.size_eq]; omega
    obtain ⟨x, hx⟩ := List.length_eq_one_iff.1 hl
    rw [hx]
    rw [e] at hh
    unfold byt at hh
    rw [hx] at hh
    have : x = 42 := UInt8.toNat_inj.1 (by simpa using hh)
    rw [this]
/-- the texts of the signs of a pattern, at i or behind -/
def cuts (s : ByteArray) (i : Nat) : List ByteArray :=
  if h : i < s.size ∧ ¬ tokBad s i then tokText s i :: cuts s (tokNext s i) else []
  termination_by s.size - i
  decreasing_by have := tokNext_gt s i; omega
theorem cuts_end {s : ByteArray} {i : Nat} (h : s.size ≤ i) : cuts s i = [] := by rw [cuts, dif_neg (by omega)]
theorem cuts_more {s : ByteArray} {i : Nat} (h : i < s.size) (hb : ¬ tokBad s i) : cuts s i = tokText s i :: cuts s (tokNext s i) := by rw [cuts, dif_pos ⟨h, hb⟩]
/-- signs and their texts, one by one -/
theorem toks_cuts {s : ByteArray} : ∀ (d i : Nat) (l : List Tok), s.size - i = d → toks s i = some l → l.length = (cuts s i).length ∧
    ∀ j, j < l.length → ∃ a, a < s.size ∧ ¬ tokBad s a ∧ l[j]? = some (tokAt s a) ∧ (cuts s i)[j]? = some (tokText s a) := by
  intro d
  induction d using Nat.strongRecOn with
  | ind d ih =>
    intro i l hd hl
    by_cases hi : i < s.size
    · by_cases hb : tokBad s i
      · rw [toks_bad hi hb] at hl; cases hl
      · rw [toks_more hi hb] at hl
        have hg := tokNext_gt s i
        cases hr : toks s (tokNext s i) with
        | none => rw [hr] at hl; cases hl
        | some r =>
          rw [hr] at hl
          simp only [Option.map_some, Option.some.injEq] at hl
          subst hl
          obtain ⟨h1, h2⟩ := ih _ (by omega) (tokNext s i) r rfl hr
          rw [cuts_more hi hb]
          refine ⟨by simp [h1], fun j hj => ?_⟩
          cases j with
          | zero => exact ⟨i, hi, hb, rfl, rfl⟩
          | succ j =>
            obtain ⟨a, h3, h4, h5, h6⟩ := h2 j (by simpa using hj)
            exact ⟨a, h3, h4, by simpa using h5, by simpa using h6⟩
    · rw [toks_end (by omega)] at hl
      simp only [Option.some.injEq] at hl
      subst hl
      rw [cuts_end (by omega)]
      exact ⟨rfl, fun j hj => absurd hj (by simp)⟩
end Go.Creel
