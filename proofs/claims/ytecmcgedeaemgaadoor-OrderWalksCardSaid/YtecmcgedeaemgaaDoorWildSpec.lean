/-
  Patterns of which some stand for any number: a table of beginnings, and a walk that goes back to the last of these. Plain words and laws.
-/
import Derived.Test.YtecmcgedeaemgaaDoorBase
namespace Go.Creel
set_option linter.unusedVariables false
/-- do the patterns from i on fit the things from k on? -/
def wildM (n m : Nat) (star : Nat → Bool) (fits : Nat → Nat → Bool) (i k : Nat) : Bool :=
  if hi : i < n then
    if star i = true then wildM n m star fits (i + 1) k || (if hk : k < m then wildM n m star fits i (k + 1) else false)
    else if hk : k < m then fits i k && wildM n m star fits (i + 1) (k + 1) else false
  else decide (k = m)
  termination_by (n - i) + (m - k)
/-- do the first i patterns fit the first k things? -/
def wildP (star : Nat → Bool) (fits : Nat → Nat → Bool) : Nat → Nat → Bool
  | 0, 0 => true
  | 0, _ + 1 => false
  | i + 1, 0 => wildP star fits i 0 && star i
  | i + 1, k + 1 => if star i = true then wildP star fits i (k + 1) || wildP star fits (i + 1) k else wildP star fits i k && fits i k
section
variable {n m : Nat} {star : Nat → Bool} {fits : Nat → Nat → Bool}
theorem wildM_last (k : Nat) : wildM n m star fits n k = decide (k = m) := by rw [wildM, dif_neg (by omega)]
theorem wildM_star {i k : Nat} (hi : i < n) (hs : star i = true) : wildM n m star fits i k = true ↔ wildM n m star fits (i + 1) k = true ∨ (k < m ∧ wildM n m star fits i (k + 1) = true) := by
  conv => lhs; rw [wildM, dif_pos hi, if_pos hs]
  by_cases h : k < m <;> simp [h]
theorem wildM_one {i k : Nat} (hi : i < n) (hs : ¬ star i = true) : wildM n m star fits i k = true ↔ k < m ∧ fits i k = true ∧ wildM n m star fits (i + 1) (k + 1) = true := by
  conv => lhs; rw [wildM, dif_pos hi, if_neg hs]
  by_cases h : k < m <;> simp [h]
/-- a star takes so many as it likes -/
theorem wildM_any {i k : Nat} (hi : i < n) (hk : k ≤ m) (hs : star i = true) : wildM n m star fits i k = true ↔ ∃ f, k ≤ f ∧ f ≤ m ∧ wildM n m star fits (i + 1) f = true := by
  obtain ⟨d, hd⟩ : ∃ d, m - k = d := ⟨_, rfl⟩
  induction d generalizing k with
  | zero =>
    rw [wildM_star hi hs]
    constructor
    · rintro (h | h)
      · exact ⟨k, by omega, hk, h⟩
      · omega
    · rintro ⟨f, h1, h2, h3⟩
      have : f = k := by omega
      subst this
      exact .inl h3
  | succ d ih =>
    rw [wildM_star hi hs]
    constructor
    · rintro (h | ⟨h, h2⟩)
      · exact ⟨k, by omega, hk, h⟩
      · obtain ⟨f, h3, h4, h5⟩ := (ih (by omega) (by omega)).1 h2
        exact ⟨f, by omega, h4, h5⟩
    · rintro ⟨f, h1, h2, h3⟩
      by_cases e : f = k
      · subst e; exact .inl h3
      · exact .inr ⟨by omega, (ih (k := k + 1) (by omega) (by omega)).2 ⟨f, by omega, h2, h3⟩⟩
theorem wildP_any {i k : Nat} (hs : star i = true) : wildP star fits (i + 1) k = true ↔ ∃ f, f ≤ k ∧ wildP star fits i f = true := by
  induction k with
  | zero =>
    rw [wildP]
    constructor
    · intro h
      simp only [Bool.and_eq_true] at h
      exact ⟨0, Nat.le_refl _, h.1⟩
    · rintro ⟨f, h1, h2⟩
      have : f = 0 := by omega
      subst this
      simp [h2, hs]
  | succ k ih =>
    rw [wildP, if_pos hs, Bool.or_eq_true, ih]
    constructor
    · rintro (h | ⟨f, h1, h2⟩)
      · exact ⟨k + 1, Nat.le_refl _, h⟩
      · exact ⟨f, by omega, h2⟩
    · rintro ⟨f, h1, h2⟩
      by_cases e : f = k + 1
      · subst e; exact .inl h2
      · exact .inr ⟨f, by omega, h2⟩
theorem wildP_one {i k : Nat} (hs : ¬ star i = true) : wildP star fits (i + 1) k = true ↔ ∃ f, k = f + 1 ∧ fits i f = true ∧ wildP star fits i f = true := by
  cases k with
  | zero =>
    rw [wildP]
    simp [hs]
  | succ k =>
    rw [wildP, if_neg hs, Bool.and_eq_true]
    constructor
    · rintro ⟨h1, h2⟩
      exact ⟨k, rfl, h2, h1⟩
    · rintro ⟨f, h1, h2, h3⟩
      obtain rfl : k = f := by omega
      exact ⟨h3, h2⟩
/-- a fit is cut behind the first i patterns -/
theorem wild_cut {i : Nat} (hi : i ≤ n) : wildM n m star fits 0 0 = true ↔ ∃ k, k ≤ m ∧ wildP star fits i k = true ∧ wildM n m star fits i k = true := by
  induction i with
  | zero =>
    constructor
    · intro h; exact ⟨0, by omega, by rw [wildP], h⟩
    · rintro ⟨k, h1, h2, h3⟩
      cases k with
      | zero => exact h3
      | succ k => rw [wildP] at h2; cases h2
  | succ i ih =>
    rw [ih (by omega)]
    by_cases hs : star i = true
    · constructor
      · rintro ⟨k, h1, h2, h3⟩
        obtain ⟨f, h4, h5, h6⟩ := (wildM_any (by omega) h1 hs).1 h3
        exact ⟨f, h5, (wildP_any hs).2 ⟨k, h4, h2⟩, h6⟩
      · rintro ⟨k, h1, h2, h3⟩
        obtain ⟨f, h4, h5⟩ := (wildP_any hs).1 h2
        exact ⟨f, by omega, h5, (wildM_any (by omega) (by omega) hs).2 ⟨k, h4, h1, h3⟩⟩
    · constructor
      · rintro ⟨k, h1, h2, h3⟩
        obtain ⟨h4, h5, h6⟩ := (wildM_one (by omega) hs).1 h3
        exact ⟨k + 1, by omega, (wildP_one hs).2 ⟨k, rfl, h5, h2⟩, h6⟩
      · rintro ⟨k, h1, h2, h3⟩
        obtain ⟨f, rfl, h4, h5⟩ := (wildP_one hs).1 h2
        exact ⟨f, by omega, h5, (wildM_one (by omega) hs).2 ⟨by omega, h4, h3⟩⟩
/-- the table and the walk say the same -/
theorem wild_table : wildM n m star fits 0 0 = wildP star fits n m := by
  rw [Bool.eq_iff_iff, wild_cut (Nat.le_refl n)]
  constructor
  · rintro ⟨k, h1, h2, h3⟩
    rw [wildM_last, decide_eq_true_eq] at h3
    subst h3
    exact h2
  · intro h
    exact ⟨m, Nat.le_refl _, h, by rw [wildM_last]; simp⟩
/-- patterns a to a + d, none a star, take what is ahead of them one by one -/
theorem wildM_run {a f : Nat} : ∀ {d : Nat}, a + d ≤ n → (∀ t, t < d → ¬ star (a + t) = true) → wildM n m star fits a f = true → f ≤ m → f + d ≤ m ∧ wildM n m star fits (a + d) (f + d) = true
  | 0, _, _, h, hf => ⟨hf, h⟩
  | d + 1, hn, hs, h, hf => by
    obtain ⟨h1, h2⟩ := wildM_run (d := d) (by omega) (fun t ht => hs t (by omega)) h hf
    obtain ⟨h3, h4, h5⟩ := (wildM_one (by omega) (hs d (by omega))).1 h2
    exact ⟨by omega, h5⟩
/-- what the walk knows: the answer is that of what is ahead, or of the last star that takes more. -/
structure WildAt (n m : Nat) (star : Nat → Bool) (fits : Nat → Nat → Bool) (i k last from_ : Nat) (has : Bool) : Prop where
  hi : i ≤ n
  hk : k ≤ m
  none : has = false → (wildM n m star fits 0 0 = true ↔ wildM n m star fits i k = true)
  some : has = true → last < i ∧ from_ + (i - (last + 1)) = k ∧ (∀ t, t < i - (last + 1) → ¬ star (last + 1 + t) = true) ∧
    (wildM n m star fits 0 0 = true ↔ wildM n m star fits i k = true ∨ ∃ f, from_ < f ∧ f ≤ m ∧ wildM n m star fits (last + 1) f = true)
theorem WildAt.start : WildAt n m star fits 0 0 0 0 false := ⟨by omega, by omega, fun _ => Iff.rfl, fun h => by cases h⟩
variable {i k last from_ : Nat} {has : Bool}
theorem WildAt.met (h : WildAt n m star fits i k last from_ has) (hi : i < n) (hs : star i = true) : WildAt n m star fits (i + 1) k i k true := by
  refine ⟨by omega, h.hk, (fun e => by cases e), fun _ => ⟨by omega, by omega, (fun t ht => by omega), ?_⟩⟩
  have hany := wildM_any (star := star) (fits := fits) hi h.hk hs
  have key : (wildM n m star fits (i + 1) k = true ∨ ∃ f, k < f ∧ f ≤ m ∧ wildM n m star fits (i + 1) f = true) ↔ wildM n m star fits i k = true := by
    rw [hany]
    constructor
    · rintro (h1 | ⟨f, h1, h2, h3⟩)
      · exact ⟨k, by omega, h.hk, h1⟩
      · exact ⟨f, by omega, h2, h3⟩
    · rintro ⟨f, h1, h2, h3⟩
      by_cases e : f = k
      · subst e; exact .inl h3
      · exact .inr ⟨f, by omega, h2, h3⟩
  rw [key]
  cases has with
  | false => exact h.none rfl
  | true =>
    obtain ⟨h1, h2, h3, h4⟩ := h.some rfl
    rw [h4]
    refine ⟨fun h5 => ?_, fun h5 => .inl h5⟩
    rcases h5 with h5 | ⟨f, h5, h6, h7⟩
    · exact h5
    · obtain ⟨h8, h9⟩ := wildM_run (d := i - (last + 1)) (by omega) h3 h7 h6
      have e : last + 1 + (i - (last + 1)) = i := by omega
      rw [e] at h9
      obtain ⟨g, h10, h11, h12⟩ := (wildM_any hi h8 hs).1 h9
      exact hany.2 ⟨g, by omega, h11, h12⟩
theorem WildAt.goes (h : WildAt n m star fits i k last from_ has) (hi : i < n) (hk : k < m) (hs : ¬ star i = true) (hf : fits i k = true) : WildAt n m star fits (i + 1) (k + 1) last from_ has := by
  have key : wildM n m star fits i k = true ↔ wildM n m star fits (i + 1) (k + 1) = true := by
    rw [wildM_one hi hs]; simp [hk, hf]
  refine ⟨by omega, by omega, fun e => by rw [h.none e, key], fun e => ?_⟩
  obtain ⟨h1, h2, h3, h4⟩ := h.some e
  refine ⟨by omega, by omega, fun t ht => ?_, by rw [h4, key]⟩
  by_cases e : t < i - (last + 1)
  · exact h3 t e
  · have : last + 1 + t = i := by omega
    rw [this]; exact hs
theorem WildAt.miss (h : WildAt n m star fits i k last from_ has) (hk : k < m) (hm : wildM n m star fits i k = false) : (has = false → wildM n m star fits 0 0 = false) ∧ (has = true → WildAt n m star fits (last + 1) (from_ + 1) last (from_ + 1) true) := by
  constructor
  · intro e
    have := h.none e
    rw [hm] at this
    cases h0 : wildM n m star fits 0 0 with
    | false => rfl
    | true => exact absurd (this.1 h0) (by simp)
  · intro e
    obtain ⟨h1, h2, h3, h4⟩ := h.some e
    have := h.hi
    refine ⟨by omega, by omega, (fun e => by cases e), fun _ => ⟨by omega, by omega, (fun t ht => by omega), ?_⟩⟩
    rw [h4, hm]
    constructor
    · rintro (h5 | ⟨f, h5, h6, h7⟩)
      · cases h5
      · by_cases e : f = from_ + 1
        · subst e; exact .inl h7
        · exact .inr ⟨f, by omega, h6, h7⟩
    · rintro (h5 | ⟨f, h5, h6, h7⟩)
      · exact .inr ⟨from_ + 1, by omega, by omega, h5⟩
      · exact .inr ⟨f, by omega, h6, h7⟩
theorem wildM_off {k : Nat} (hk : k < m) : wildM n m star fits n k = false := by rw [wildM_last]; exact decide_eq_false (by omega)
theorem wildM_no {i k : Nat} (hi : i < n) (hs : ¬ star i = true) (hf : fits i k = false) : wildM n m star fits i k = false := by
  cases h : wildM n m star fits i k with
  | false => rfl
  | true => have := ((wildM_one hi hs).1 h).2.1; rw [hf] at this; cases this
/-- at the end, only stars may be left -/
theorem WildAt.done (h : WildAt n m star fits i m last from_ has) : wildM n m star fits 0 0 = wildM n m star fits i m := by
  rw [Bool.eq_iff_iff]
  cases has with
  | false => exact h.none rfl
  | true =>
    obtain ⟨h1, h2, h3, h4⟩ := h.some rfl
    rw [h4]
    refine ⟨fun h5 => ?_, fun h5 => .inl h5⟩
    rcases h5 with h5 | ⟨f, h5, h6, h7⟩
    · exact h5
    · have := h.hi
      obtain ⟨h8, h9⟩ := wildM_run (d := i - (last + 1)) (by omega) h3 h7 h6
      omega
theorem wildM_tail {i : Nat} (hi : i < n) (hs : star i = true) : wildM n m star fits i m = wildM n m star fits (i + 1) m := by
  rw [Bool.eq_iff_iff, wildM_star hi hs]
  constructor
  · rintro (h | h)
    · exact h
    · omega
  · exact .inl
theorem wildM_left {i : Nat} (hi : i < n) (hs : ¬ star i = true) : wildM n m star fits i m = false := by
  cases h : wildM n m star fits i m with
  | false => rfl
  | true => have := ((wildM_one hi hs).1 h).1; omega
end
end Go.Creel
