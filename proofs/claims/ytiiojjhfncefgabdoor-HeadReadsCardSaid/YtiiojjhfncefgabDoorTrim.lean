/-
  strings.Trim with a cutset of one byte.
-/
import Derived.Test.YtiiojjhfncefgabDoorText
namespace Go.Creel
set_option linter.unusedVariables false
def ltrimL (c : UInt8) (l : List UInt8) : List UInt8 := l.dropWhile (· == c)
def rtrimL (c : UInt8) (l : List UInt8) : List UInt8 := (l.reverse.dropWhile (· == c)).reverse
theorem byt_zero_cons {t : ByteArray} (h : 0 < t.size) : ∃ x l, t.data.toList = x :: l ∧ byt t 0 = x.toNat := by
  cases hl : t.data.toList with
  | nil =>
    have : t.size = 0 := by rw [Lib.size_eq t, hl]; rfl
    omega
  | cons x l => exact ⟨x, l, rfl, by simp [byt, hl]⟩
theorem byt_last_snoc {t : ByteArray} (h : 0 < t.size) : ∃ l x, t.data.toList = l ++ [x] ∧ byt t (t.size - 1) = x.toNat := by
  have hs : t.size = t.data.toList.length := Lib.size_eq t
  rcases List.eq_nil_or_concat t.data.toList with e | ⟨l, x, e⟩
  · have h0 : t.size = 0 := by rw [hs, e]; rfl
    omega
  · rw [List.concat_eq_append] at e
    refine ⟨l, x, e, ?_⟩
    have hl : t.size = l.length + 1 := by rw [hs, e]; simp
    unfold byt
    rw [e, hl]
    simp
theorem ltrim_step {c : UInt8} {t : ByteArray} (h : 0 < t.size) (hc : byt t 0 = c.toNat) : ltrimL c (t.extract 1 t.size).data.toList = ltrimL c t.data.toList := by
  obtain ⟨x, l, hl, hx⟩ := byt_zero_cons h
  have e : x = c := UInt8.toNat_inj.1 (by omega)
  have h2 : (t.extract 1 t.size).data.toList = l := by
    have hs : t.size = l.length + 1 := by rw [Lib.size_eq t, hl]; simp
    rw [Lib.extract_data, hl, hs]
    simp
  rw [h2, hl, e]
  simp [ltrimL]
theorem ltrim_stop {c : UInt8} {t : ByteArray} (h : t.size = 0 ∨ byt t 0 ≠ c.toNat) : ltrimL c t.data.toList = t.data.toList := by
  by_cases h0 : t.size = 0
  · have : t.data.toList = [] := List.eq_nil_of_length_eq_zero ((Lib.size_eq t).symm.trans h0)
    rw [this]; rfl
  · obtain ⟨x, l, hl, hx⟩ := byt_zero_cons (Nat.pos_of_ne_zero h0)
    have hne : x ≠ c := fun e => by rcases h with h | h; exact h0 h; exact h (by rw [hx, e])
    rw [hl]
    simp [ltrimL, hne]
theorem extract_init (t : ByteArray) {l : List UInt8} {x : UInt8} (hl : t.data.toList = l ++ [x]) : (t.extract 0 (t.size - 1)).data.toList = l := by
  have hs : t.size = l.length + 1 := by rw [Lib.size_eq t, hl]; simp
  rw [Lib.extract_data, hl, hs]
  simp
theorem rtrim_step {c : UInt8} {t : ByteArray} (h : 0 < t.size) (hc : byt t (t.size - 1) = c.toNat) : rtrimL c (t.extract 0 (t.size - 1)).data.toList = rtrimL c t.data.toList := by
  obtain ⟨l, x, hl, hx⟩ := byt_last_snoc h
  have e : x = c := UInt8.toNat_inj.1 (by omega)
  rw [extract_init t hl, hl, e]
  simp [rtrimL]
theorem rtrim_stop {c : UInt8} {t : ByteArray} (h : t.size = 0 ∨ byt t (t.size - 1) ≠ c.toNat) : rtrimL c t.data.toList = t.data.toList := by
  by_cases h0 : t.size = 0
  · have : t.data.toList = [] := List.eq_nil_of_length_eq_zero ((Lib.size_eq t).symm.trans h0)
    rw [this]; rfl
  · obtain ⟨l, x, hl, hx⟩ := byt_last_snoc (Nat.pos_of_ne_zero h0)
    have hne : x ≠ c := fun e => by rcases h with h | h; exact h0 h; exact h (by rw [hx, e])
    rw [hl]
    simp [rtrimL, hne]
theorem dropWhile_all {c : UInt8} : ∀ {l : List UInt8}, l.dropWhile (· == c) = [] ↔ ∀ x ∈ l, x = c
  | [] => by simp
  | a :: l => by
    by_cases h : a = c
    · subst h
      simp only [List.dropWhile_cons, beq_self_eq_true, if_true]
      rw [dropWhile_all]
      simp
    · simp [h]
/-- nothing is left just if all bytes are c -/
theorem trim_empty {c : UInt8} {l : List UInt8} : ltrimL c (rtrimL c l) = [] ↔ ∀ x ∈ l, x = c := by
  constructor
  · intro h
    have h1 := dropWhile_all.1 h
    have h2 : l.reverse.dropWhile (· == c) = [] := by
      cases hd : l.reverse.dropWhile (· == c) with
      | nil => rfl
      | cons a r =>
        exfalso
        have ha : a ∈ rtrimL c l := by simp [rtrimL, hd]
        have hac := h1 a ha
        have hh := List.head?_dropWhile_not (p := (· == c)) (l := l.reverse)
        rw [hd] at hh
        simp at hh
        exact hh hac
    intro x hx
    exact dropWhile_all.1 h2 x (by simpa using hx)
  · intro h
    have h2 : rtrimL c l = [] := by
      unfold rtrimL
      rw [dropWhile_all.2 (fun x hx => h x (by simpa using hx))]
      rfl
    rw [h2]; rfl
theorem ltrim_length (c : UInt8) (l : List UInt8) : (ltrimL c l).length ≤ l.length := by
  unfold ltrimL
  exact (List.dropWhile_sublist _).length_le
theorem rtrim_length (c : UInt8) (l : List UInt8) : (rtrimL c l).length ≤ l.length := by
  unfold rtrimL
  have := (List.dropWhile_sublist (p := (· == c)) (l := l.reverse)).length_le
  simpa using this
end Go.Creel
namespace Go.Proofs.YtiiojjhfncefgabDoor
set_option linter.unusedVariables false
open Go.Creel Go.RowKit
set_option maxRecDepth 100000 in
theorem trimLeftByte_any (s : ByteArray) (c : UInt8) (n : Int) (hn : n = c.toNat) (w : World) (hs : s.size ≤ maxLen) :
    Calls Tryd.prog 122 #[.string s, .int .u8 n] w fun e w' => e = .returned (.string (ofL (ltrimL c s.data.toList))) ∧ w = w' := by
  unfold maxLen at hs
  have HN := Lib.hid hn
  clear hn
  go_enter Tryd.func122, Tryd.ntmps122
  go_wp2
  go_loop [0] (fun v => ∃ t : ByteArray, v = .string t ∧ t.size ≤ s.size ∧ Hid (ltrimL c t.data.toList = ltrimL c s.data.toList)) (fun v => slen v)
  case atStart => exact ⟨s, rfl, Nat.le_refl _, rfl⟩
  case round =>
    obtain ⟨t, rfl, ht, HT⟩ := hrel
    by_cases h0 : 0 < t.size
    · have HB := Lib.hid (byt_get t 0 h0)
      have hb' : t[0].toNat < 256 := UInt8.toNat_lt _
      by_cases hc : byt t 0 = c.toNat
      · have hq : (((t[0].toNat : Nat) : Int) == n) = true := by rw [HN.out, HB.out, hc]; simp
        have HS := Lib.hid (ltrim_step h0 hc)
        clear hc
        go_wp2
        go_round
        case rel => exact ⟨_, rfl, by simp; omega, HS.out.trans HT.out⟩
        case measure => simp [slen]; omega
      · have hq : (((t[0].toNat : Nat) : Int) == n) = false := by rw [HN.out, HB.out, beq_eq_false_iff_ne]; omega
        have HS := Lib.hid (ltrim_stop (c := c) (t := t) (.inr hc))
        clear hc
        go_wp2
        go_ret
        exact ⟨ret_s (by rw [← HT.out, HS.out, ofL_of]), rfl⟩
    · have HS := Lib.hid (ltrim_stop (c := c) (t := t) (.inl (by omega)))
      go_wp2
      go_ret
      exact ⟨ret_s (by rw [← HT.out, HS.out, ofL_of]), rfl⟩
set_option maxRecDepth 100000 in
theorem trimRightByte_any (s : ByteArray) (c : UInt8) (n : Int) (hn : n = c.toNat) (w : World) (hs : s.size ≤ maxLen) :
    Calls Tryd.prog 123 #[.string s, .int .u8 n] w fun e w' => e = .returned (.string (ofL (rtrimL c s.data.toList))) ∧ w = w' := by
  unfold maxLen at hs
  have HN := Lib.hid hn
  clear hn
  go_enter Tryd.func123, Tryd.ntmps123
  go_wp2
  go_loop [0] (fun v => ∃ t : ByteArray, v = .string t ∧ t.size ≤ s.size ∧ Hid (rtrimL c t.data.toList = rtrimL c s.data.toList)) (fun v => slen v)
  case atStart => exact ⟨s, rfl, Nat.le_refl _, rfl⟩
  case round =>
    obtain ⟨t, rfl, ht, HT⟩ := hrel
    by_cases h0 : 0 < t.size
    · have h1 : t.size - 1 < t.size := by omega
      have HB := Lib.hid (byt_get t (t.size - 1) h1)
      have hb' : t[t.size - 1].toNat < 256 := UInt8.toNat_lt _
      by_cases hc : byt t (t.size - 1) = c.toNat
      · have hq : (((t[t.size - 1].toNat : Nat) : Int) == n) = true := by rw [HN.out, HB.out, hc]; simp
        have HS := Lib.hid (rtrim_step h0 hc)
        clear hc
        go_wp2
        go_round
        case rel => exact ⟨_, rfl, by simp; omega, HS.out.trans HT.out⟩
        case measure => simp [slen]; omega
      · have hq : (((t[t.size - 1].toNat : Nat) : Int) == n) = false := by rw [HN.out, HB.out, beq_eq_false_iff_ne]; omega
        have HS := Lib.hid (rtrim_stop (c := c) (t := t) (.inr hc))
        clear hc
        go_wp2
        go_ret
        exact ⟨ret_s (by rw [← HT.out, HS.out, ofL_of]), rfl⟩
    · have HS := Lib.hid (rtrim_stop (c := c) (t := t) (.inl (by omega)))
      go_wp2
      go_ret
      exact ⟨ret_s (by rw [← HT.out, HS.out, ofL_of]), rfl⟩
set_option maxRecDepth 100000 in
/-- strings.Trim(s, "\\x00") -/
theorem Trim0_any (s : ByteArray) (w : World) (hs : s.size ≤ maxLen) :
    Calls Tryd.prog 96 #[.string s, .string ⟨#[0]⟩] w fun e w' => e = .returned (.string (ofL (ltrimL 0 (rtrimL 0 s.data.toList)))) ∧ Below w.heap.size w w' := by
  by_cases h0 : s.size = 0
  · have HF := Lib.hid (show ofL (ltrimL 0 (rtrimL 0 s.data.toList)) = s by rw [rtrim_stop (.inl h0), ltrim_stop (.inl h0), ofL_of])
    have he := empty_t h0
    clear h0
    go_enter Tryd.func96, Tryd.ntmps96
    go_wp2
    go_ret
    exact ⟨ret_s HF.out, Below.refl _ _⟩
  · have he := empty_f h0
    have hr := rtrim_length 0 s.data.toList
    rw [← Lib.size_eq s] at hr
    have hz : (ofL (rtrimL 0 s.data.toList)).size ≤ maxLen := by rw [ofL_size]; omega
    have HR := Lib.hid (fun (w : World) => trimRightByte_any s 0 0 rfl w hs)
    have hl := fun (w : World) => trimLeftByte_any (ofL (rtrimL 0 s.data.toList)) 0 0 rfl w hz
    rw [ofL_data] at hl
    have HL := Lib.hid hl
    clear h0 hr hz hl hs
    go_enter Tryd.func96, Tryd.ntmps96
    go_wp2_with fail
    go_quiet ((first | (go_at_call 123; exact quiet_same (HR.out _)) | (go_at_call 122; exact quiet_same (HL.out _))))
    go_wp2
    go_ret
    exact ⟨rfl, below_draws _ _ _⟩
end Go.Proofs.YtiiojjhfncefgabDoor
