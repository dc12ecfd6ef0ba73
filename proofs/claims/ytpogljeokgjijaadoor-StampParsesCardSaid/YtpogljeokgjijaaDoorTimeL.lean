/-
  Times read from texts: what the parts of stamp.Parse do.
-/
import Derived.Test.YtpogljeokgjijaaDoorTimeSpec
import Derived.Test.YtpogljeokgjijaaDoorStamp
namespace Go.Creel
set_option linter.unusedVariables false
set_option linter.unusedSimpArgs false
open Go.RowKit
theorem restOf_trim (l : List UInt8) : Lib.trimPrefix l [45] = restOf l ∧ Lib.hasPrefix l [45] = belowOf l := by
  unfold Lib.trimPrefix Lib.hasPrefix restOf belowOf
  cases l with
  | nil => exact ⟨rfl, rfl⟩
  | cons c l =>
    by_cases h : c = 45
    · subst h; simp [List.isPrefixOf]
    · have h2 : ¬ (45 : UInt8) = c := fun e => h e.symm
      simp [List.isPrefixOf, h, h2]
theorem indexByte_dot (l : List UInt8) : Lib.indexByte l 46 = if dotAt l < l.length then (dotAt l : Int) else -1 := by
  induction l with
  | nil => rfl
  | cons b l ih =>
    unfold Lib.indexByte
    by_cases h : b = 46
    · subst h
      simp [dotAt]
    · have hd : dotAt (b :: l) = dotAt l + 1 := by simp [dotAt, h]
      have hb : (b == 46) = false := by simpa using h
      rw [hb, ih, hd]
      simp only [Bool.false_eq_true, if_false]
      by_cases hl : dotAt l < l.length
      · have : (((dotAt l : Nat) : Int) == -1) = false := by rw [beq_eq_false_iff_ne]; omega
        rw [if_pos hl, this, if_pos (show dotAt l + 1 < (b :: l).length by simpa using hl)]
        simp
      · rw [if_neg hl, if_neg (show ¬ dotAt l + 1 < (b :: l).length by simp; omega)]
        rfl
theorem dotAt_le (l : List UInt8) : dotAt l ≤ l.length := by
  unfold dotAt
  exact (List.takeWhile_prefix _).length_le
theorem bl_list {s : ByteArray} {k : Nat} (h : k < s.size) : k < s.data.toList.length ∧ s.data.toList[k]? = some s[k] := by
  have h1 : k < s.data.toList.length := by simpa using h
  refine ⟨h1, ?_⟩
  rw [List.getElem?_eq_getElem h1]
  rfl
theorem take_next {l : List UInt8} {k : Nat} {c : UInt8} (h : l[k]? = some c) : l.take (k + 1) = l.take k ++ [c] := by
  rw [List.take_add_one, h]
  rfl
theorem isDig_t {c : UInt8} (h1 : 48 ≤ c.toNat) (h2 : c.toNat ≤ 57) : isDig c = true := by unfold isDig; simp [h1, h2]
theorem isDig_f {c : UInt8} (h : c.toNat < 48 ∨ 57 < c.toNat) : isDig c = false := by
  unfold isDig
  rw [decide_eq_false_iff_not]
  omega
theorem all_next {l : List UInt8} {k : Nat} {c : UInt8} (h : l[k]? = some c) (ha : (l.take k).all isDig = true) (hc : isDig c = true) : (l.take (k + 1)).all isDig = true := by
  rw [take_next h, List.all_append, ha]
  simp [hc]
theorem val_next {l : List UInt8} {k : Nat} {c : UInt8} (h : l[k]? = some c) : decVal (l.take (k + 1)) = 10 * decVal (l.take k) + (c.toNat - 48) := by
  rw [take_next h, decVal_snoc]
theorem not_all {l : List UInt8} {k : Nat} {c : UInt8} (h : l[k]? = some c) (hc : isDig c = false) : l.all isDig = false := by
  rw [← Bool.not_eq_true]
  intro ha
  have := List.all_eq_true.1 ha c (List.mem_of_getElem? h)
  rw [hc] at this
  cases this
theorem decVal_lt : ∀ (n : Nat) {l : List UInt8}, l.length = n → l.all isDig = true → decVal l < 10 ^ n
  | 0, l, hn, _ => by
    obtain rfl := List.eq_nil_of_length_eq_zero hn
    decide
  | n + 1, l, hn, h => by
    rcases List.eq_nil_or_concat l with e | ⟨l', c, e⟩
    · rw [e] at hn; cases hn
    · rw [List.concat_eq_append] at e
      subst e
      rw [List.all_append, Bool.and_eq_true] at h
      have h1 := decVal_lt n (l := l') (by simpa using hn) h.1
      have h2 : isDig c = true := by simpa using h.2
      unfold isDig at h2
      have h3 := of_decide_eq_true h2
      rw [decVal_snoc, Nat.pow_succ]
      omega
theorem digCount_is {l : List UInt8} {k m : Nat} (ha : (l.take k).all isDig = true) (hk : k ≤ l.length) (hm : k ≤ m) (h : k = m ∨ k = l.length ∨ ∃ c, l[k]? = some c ∧ isDig c = false) : digCount m l = k := by
  induction k generalizing l m with
  | zero =>
    cases m with
    | zero => rfl
    | succ m =>
      cases l with
      | nil => rfl
      | cons c l =>
        rcases h with h | h | ⟨d, h1, h2⟩
        · cases h
        · simp at h
        · simp at h1
          subst h1
          simp [digCount, h2]
  | succ k ih =>
    cases m with
    | zero => omega
    | succ m =>
      cases l with
      | nil => simp at hk
      | cons c l =>
        rw [List.take_succ_cons, List.all_cons, Bool.and_eq_true] at ha
        rw [digCount, if_pos ha.1, ih ha.2 (by simpa using hk) (by omega) ?_]
        rcases h with h | h | h
        · exact .inl (by omega)
        · exact .inr (.inl (by simpa using h))
        · exact .inr (.inr (by simpa using h))
end Go.Creel
namespace Go.Proofs.YtpogljeokgjijaaDoor
set_option linter.unusedVariables false
set_option linter.unusedSimpArgs false
open Go.Creel Go.RowKit
theorem CutPre_any (l : List UInt8) (w : World) :
    Calls Tryd.prog 20 #[.string (ofL l), .string ⟨#[45]⟩] w fun e w' => e = .returned (.tuple #[.string (ofL (restOf l)), .bool (belowOf l)]) ∧ w = w' := by
  refine (Tryd.strings_CutPrefix (ofL l) ⟨#[45]⟩ w).mono ?_
  rintro e w' ⟨rfl, rfl⟩
  refine ⟨?_, rfl⟩
  rw [ofL_data]
  obtain ⟨h1, h2⟩ := restOf_trim l
  show Ending.returned (Value.tuple #[.string (ofL (Lib.trimPrefix l [45])), .bool (Lib.hasPrefix l [45])]) = _
  rw [h1, h2]
theorem IndexDot_any (l : List UInt8) (w : World) :
    Calls Tryd.prog 71 #[.string (ofL l), .string ⟨#[46]⟩] w fun e w' => e = .returned (.int .i64 (if dotAt l < l.length then (dotAt l : Int) else -1)) ∧ w = w' := by
  refine (Any.stringslite_Index_one { Tryd.lays143 with } (ofL l) 46 w).mono ?_
  rintro e w' ⟨rfl, rfl⟩
  rw [ofL_data, indexByte_dot]
  exact ⟨rfl, rfl⟩
set_option maxRecDepth 100000 in
set_option maxHeartbeats 1000000 in
theorem SlCut_any (l : List UInt8) (w : World) (hl : l.length ≤ maxLen) :
    Calls Tryd.prog 47 #[.string (ofL l), .string ⟨#[46]⟩] w fun e w' => (if dotAt l < l.length then e = .returned (.tuple #[.string (ofL (l.take (dotAt l))), .string (ofL (l.drop (dotAt l + 1))), .bool true]) else e = .returned (.tuple #[.string (ofL l), .string ByteArray.empty, .bool false])) ∧ ∃ n, w' = w.drewN n := by
  have hI := IndexDot_any l w
  unfold maxLen at hl
  by_cases h : dotAt l < l.length
  · rw [if_pos h] at hI
    have hsz : (ofL l).size = l.length := ofL_size l
    have HE1 := Lib.hid (show (ofL l).extract 0 (dotAt l) = ofL (l.take (dotAt l)) by rw [ofL_extract, List.drop_zero, Nat.sub_zero])
    have HE2 := Lib.hid (show (ofL l).extract (dotAt l + 1) (ofL l).size = ofL (l.drop (dotAt l + 1)) by rw [ofL_extract, hsz, List.take_of_length_le (by rw [List.length_drop]; omega)])
    generalize ofL l = s at *
    generalize ofL (l.take (dotAt l)) = s1 at *
    generalize ofL (l.drop (dotAt l + 1)) = s2 at *
    simp only [if_pos h]
    have HI := Lib.hid hI
    have hd : dotAt l < s.size := by omega
    have hsl : s.size ≤ 9223372036854775807 := by omega
    generalize dotAt l = d at *
    clear hI h hsz hl
    go_enter Tryd.func47, Tryd.ntmps47
    go_wp2_with fail
    refine HI.out.mono ?_
    rintro e w' ⟨rfl, rfl⟩
    go_wp2_with fail
    go_quiet (fail)
    go_wp2
    go_ret3
    refine ⟨?_, _, rfl⟩
    rw [← HE1.out, ← HE2.out]
    rfl
  · rw [if_neg h] at hI
    simp only [if_neg h]
    have HI := Lib.hid hI
    generalize ofL l = s at *
    clear hI h hl
    go_enter Tryd.func47, Tryd.ntmps47
    go_wp2_with fail
    refine HI.out.mono ?_
    rintro e w' ⟨rfl, rfl⟩
    go_wp2
    go_ret3
    exact ⟨rfl, 0, rfl⟩
set_option maxRecDepth 100000 in
theorem Cut_any (l : List UInt8) (w : World) (hl : l.length ≤ maxLen) :
    Calls Tryd.prog 21 #[.string (ofL l), .string ⟨#[46]⟩] w fun e w' => (if dotAt l < l.length then e = .returned (.tuple #[.string (ofL (l.take (dotAt l))), .string (ofL (l.drop (dotAt l + 1))), .bool true]) else e = .returned (.tuple #[.string (ofL l), .string ByteArray.empty, .bool false])) ∧ ∃ n, w' = w.drewN n := by
  have hI := SlCut_any l w hl
  by_cases h : dotAt l < l.length
  · simp only [if_pos h] at hI ⊢
    have HI := Lib.hid hI
    generalize ofL l = s at *
    generalize ofL (l.take (dotAt l)) = s1 at *
    generalize ofL (l.drop (dotAt l + 1)) = s2 at *
    clear hI h hl
    go_enter Tryd.func21, Tryd.ntmps21
    go_wp2_with fail
    refine HI.out.mono ?_
    rintro e w' ⟨rfl, n, rfl⟩
    go_wp2
    go_ret3
    exact ⟨rfl, _, rfl⟩
  · simp only [if_neg h] at hI ⊢
    have HI := Lib.hid hI
    generalize ofL l = s at *
    clear hI h hl
    go_enter Tryd.func21, Tryd.ntmps21
    go_wp2_with fail
    refine HI.out.mono ?_
    rintro e w' ⟨rfl, n, rfl⟩
    go_wp2
    go_ret3
    exact ⟨rfl, _, rfl⟩
set_option maxRecDepth 100000 in
set_option maxHeartbeats 1000000 in
theorem Digits_any (s : ByteArray) (most : Nat) (w : World) (hs : s.size ≤ maxLen) (hm : most ≤ 13) :
    Calls Tryd.prog 22 #[.string s, .int .i64 most] w fun e w' => e = .returned (.tuple #[.int .i64 ((digitsP s.data.toList most).1 : Int), .bool (digitsP s.data.toList most).2]) ∧ w = w' := by
  have hsz : s.data.toList.length = s.size := by simp
  unfold maxLen at hs
  by_cases h1 : s.size < 1
  · have HF := Lib.hid (show digitsP s.data.toList most = (0, false) by unfold digitsP; rw [if_pos (.inl (by omega))])
    have h2 : s.size = 0 := by omega
    clear hsz h1
    go_enter Tryd.func22, Tryd.ntmps22
    go_wp2
    go_ret2
    exact ⟨by rw [HF.out]; rfl, rfl⟩
  by_cases h2 : most < s.size
  · have HF := Lib.hid (show digitsP s.data.toList most = (0, false) by unfold digitsP; rw [if_pos (.inr (by omega))])
    clear hsz
    go_enter Tryd.func22, Tryd.ntmps22
    go_wp2
    go_ret2
    exact ⟨by rw [HF.out]; rfl, rfl⟩
  · have HF := Lib.hid (show digitsP s.data.toList most = if s.data.toList.all isDig = true then (decVal s.data.toList, true) else (0, false) by unfold digitsP; rw [if_neg (by omega)])
    have HSZ := Lib.hid hsz
    clear hsz
    go_enter Tryd.func22, Tryd.ntmps22
    go_wp2
    go_loop [6, 7, 19] (fun n _ i => ∃ k : Nat, k ≤ s.size ∧ i = .int .i64 k ∧ n = .int .i64 (decVal (s.data.toList.take k) : Int) ∧ Hid ((s.data.toList.take k).all isDig = true)) (fun _ _ i => s.size - (intOf i).toNat)
    case atStart => exact ⟨0, by omega, rfl, rfl, Lib.hid rfl⟩
    case round =>
      obtain ⟨k, hk, rfl, rfl, HA⟩ := hrel
      by_cases hlt : k < s.size
      · obtain ⟨hl1, hl2⟩ := bl_list hlt
        have hv := decVal_lt k (by rw [List.length_take]; omega) HA.out
        have hv2 : decVal (s.data.toList.take k) < 10000000000000 := Nat.lt_of_lt_of_le hv (Nat.le_trans (Nat.pow_le_pow_right (by decide) (show k ≤ 13 by omega)) (by decide))
        have HVN := Lib.hid (val_next hl2)
        have HAN := Lib.hid (all_next hl2 HA.out)
        have HNA := Lib.hid (not_all hl2)
        have hb' : s[k].toNat < 256 := UInt8.toNat_lt _
        have HDT := Lib.hid (isDig_t (c := s[k]))
        have HDF := Lib.hid (isDig_f (c := s[k]))
        clear hv hl2
        generalize decVal (s.data.toList.take k) = n at *
        by_cases hd1 : s[k].toNat < 48
        · have HFF := Lib.hid (HF.out.trans (if_neg (by rw [HNA.out (HDF.out (.inl hd1))]; simp)))
          clear HVN HAN
          go_wp2
          go_ret2
          exact ⟨by rw [HFF.out]; rfl, rfl⟩
        · by_cases hd2 : 57 < s[k].toNat
          · have HFF := Lib.hid (HF.out.trans (if_neg (by rw [HNA.out (HDF.out (.inr hd2))]; simp)))
            clear HVN HAN
            go_wp2
            go_ret2
            exact ⟨by rw [HFF.out]; rfl, rfl⟩
          · have HAN2 := Lib.hid (HAN.out (HDT.out (by omega) (by omega)))
            clear HAN
            go_wp2
            go_round
            case rel => exact ⟨k + 1, by omega, by go_num, by rw [HVN.out]; congr 1; omega, HAN2⟩
            case measure => simp [intOf]; omega
      · obtain rfl : k = s.size := by omega
        have HT := Lib.hid (show s.data.toList.take s.size = s.data.toList from List.take_of_length_le (by rw [HSZ.out]; exact Nat.le_refl _))
        have HFF := Lib.hid (HF.out.trans (if_pos (by have := HA.out; rw [HT.out] at this; exact this)))
        go_wp2
        go_ret2
        exact ⟨by rw [HFF.out, HT.out]; rfl, rfl⟩
end Go.Proofs.YtpogljeokgjijaaDoor
