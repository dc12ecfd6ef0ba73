/-
  Texts: TimeL, TimeW.
-/
import Derived.Test.YtaffgndickdbiaaGreatDoorR17
set_option linter.unusedVariables false
set_option linter.unusedSimpArgs false
set_option linter.unusedSectionVars false
namespace Go.Creel
open Go.RowKit
theorem restOf_trim (l : List UInt8) : Lib.trimPrefix l [45] = restOf l ∧ Lib.hasPrefix l [45] = belowOf l := by
  unfold Lib.trimPrefix Lib.hasPrefix restOf belowOf
  cases l with
  | nil => exact ⟨rfl, rfl⟩
  | cons c l =>
    by_cases h : c = 45
    · subst h; simp [List.isPrefixOf]
    · have h2 : ¬ (45 : UInt8) = c := fun e => h e.symm
      simp [List.isPrefixOf, h, h2]
theorem indexByte_dot (l : List UInt8) : Lib.indexByte l 46 = if dotAt l < l.length then (dotAt l : Int) else -1 := by
  induction l with
  | nil => rfl
  | cons b l ih =>
    unfold Lib.indexByte
    by_cases h : b = 46
    · subst h
      simp [dotAt]
    · have hd : dotAt (b :: l) = dotAt l + 1 := by simp [dotAt, h]
      have hb : (b == 46) = false := by simpa using h
      rw [hb, ih, hd]
      simp only [Bool.false_eq_true, if_false]
      by_cases hl : dotAt l < l.length
      · have : (((dotAt l : Nat) : Int) == -1) = false := by rw [beq_eq_false_iff_ne]; omega
        rw [if_pos hl, this, if_pos (show dotAt l + 1 < (b :: l).length by simpa using hl)]
        simp
      · rw [if_neg hl, if_neg (show ¬ dotAt l + 1 < (b :: l).length by simp; omega)]
        rfl
theorem bl_list {s : ByteArray} {k : Nat} (h : k < s.size) : k < s.data.toList.length ∧ s.data.toList[k]? = some s[k] := by
  have h1 : k < s.data.toList.length := by simpa using h
  refine ⟨h1, ?_⟩
  rw [List.getElem?_eq_getElem h1]
  rfl
theorem take_next {l : List UInt8} {k : Nat} {c : UInt8} (h : l[k]? = some c) : l.take (k + 1) = l.take k ++ [c] := by
  rw [List.take_add_one, h]
  rfl
theorem isDig_t {c : UInt8} (h1 : 48 ≤ c.toNat) (h2 : c.toNat ≤ 57) : isDig c = true := by unfold isDig; simp [h1, h2]
theorem isDig_f {c : UInt8} (h : c.toNat < 48 ∨ 57 < c.toNat) : isDig c = false := by
  unfold isDig
  rw [decide_eq_false_iff_not]
  omega
theorem all_next {l : List UInt8} {k : Nat} {c : UInt8} (h : l[k]? = some c) (ha : (l.take k).all isDig = true) (hc : isDig c = true) : (l.take (k + 1)).all isDig = true := by
  rw [take_next h, List.all_append, ha]
  simp [hc]
theorem val_next {l : List UInt8} {k : Nat} {c : UInt8} (h : l[k]? = some c) : decVal (l.take (k + 1)) = 10 * decVal (l.take k) + (c.toNat - 48) := by
  rw [take_next h, decVal_snoc]
theorem not_all {l : List UInt8} {k : Nat} {c : UInt8} (h : l[k]? = some c) (hc : isDig c = false) : l.all isDig = false := by
  rw [← Bool.not_eq_true]
  intro ha
  have := List.all_eq_true.1 ha c (List.mem_of_getElem? h)
  rw [hc] at this
  cases this
theorem decVal_lt : ∀ (n : Nat) {l : List UInt8}, l.length = n → l.all isDig = true → decVal l < 10 ^ n
  | 0, l, hn, _ => by
    obtain rfl := List.eq_nil_of_length_eq_zero hn
    decide
  | n + 1, l, hn, h => by
    rcases List.eq_nil_or_concat l with e | ⟨l', c, e⟩
    · rw [e] at hn; cases hn
    · rw [List.concat_eq_append] at e
      subst e
      rw [List.all_append, Bool.and_eq_true] at h
      have h1 := decVal_lt n (l := l') (by simpa using hn) h.1
      have h2 : isDig c = true := by simpa using h.2
      unfold isDig at h2
      have h3 := of_decide_eq_true h2
      rw [decVal_snoc, Nat.pow_succ]
      omega
theorem digCount_is {l : List UInt8} {k m : Nat} (ha : (l.take k).all isDig = true) (hk : k ≤ l.length) (hm : k ≤ m) (h : k = m ∨ k = l.length ∨ ∃ c, l[k]? = some c ∧ isDig c = false) : digCount m l = k := by
  induction k generalizing l m with
  | zero =>
    cases m with
    | zero => rfl
    | succ m =>
      cases l with
      | nil => rfl
      | cons c l =>
        rcases h with h | h | ⟨d, h1, h2⟩
        · cases h
        · simp at h
        · simp at h1
          subst h1
          simp [digCount, h2]
  | succ k ih =>
    cases m with
    | zero => omega
    | succ m =>
      cases l with
      | nil => simp at hk
      | cons c l =>
        rw [List.take_succ_cons, List.all_cons, Bool.and_eq_true] at ha
        rw [digCount, if_pos ha.1, ih ha.2 (by simpa using hk) (by omega) ?_]
        rcases h with h | h | h
        · exact .inl (by omega)
        · exact .inr (.inl (by simpa using h))
        · exact .inr (.inr (by simpa using h))
end Go.Creel
namespace Go.Proofs.YtaffgndickdbiaaGreatDoor
open Go.Creel Go.RowKit
theorem CutPre_any (l : List UInt8) (w : World) :
    Calls Tryz.prog 174 #[.string (ofL l), .string ⟨#[45]⟩] w fun e w' => e = .returned (.tuple #[.string (ofL (restOf l)), .bool (belowOf l)]) ∧ w = w' := by
  refine (Tryz.strings_CutPrefix (ofL l) ⟨#[45]⟩ w).mono ?_
  rintro e w' ⟨rfl, rfl⟩
  refine ⟨?_, rfl⟩
  rw [ofL_data]
  obtain ⟨h1, h2⟩ := restOf_trim l
  show Ending.returned (Value.tuple #[.string (ofL (Lib.trimPrefix l [45])), .bool (Lib.hasPrefix l [45])]) = _
  rw [h1, h2]
theorem IndexDot_any (l : List UInt8) (w : World) :
    Calls Tryz.prog 229 #[.string (ofL l), .string ⟨#[46]⟩] w fun e w' => e = .returned (.int .i64 (if dotAt l < l.length then (dotAt l : Int) else -1)) ∧ w = w' := by
  refine (Any.stringslite_Index_one { Tryz.lays143 with } (ofL l) 46 w).mono ?_
  rintro e w' ⟨rfl, rfl⟩
  rw [ofL_data, indexByte_dot]
  exact ⟨rfl, rfl⟩
set_option maxRecDepth 100000 in
set_option maxHeartbeats 1000000 in
theorem SlCut_any (l : List UInt8) (w : World) (hl : l.length ≤ maxLen) :
    Calls Tryz.prog 210 #[.string (ofL l), .string ⟨#[46]⟩] w fun e w' => (if dotAt l < l.length then e = .returned (.tuple #[.string (ofL (l.take (dotAt l))), .string (ofL (l.drop (dotAt l + 1))), .bool true]) else e = .returned (.tuple #[.string (ofL l), .string ByteArray.empty, .bool false])) ∧ ∃ n, w' = w.drewN n := by
  have hI := IndexDot_any l w
  unfold maxLen at hl
  by_cases h : dotAt l < l.length
  · rw [if_pos h] at hI
    have hsz : (ofL l).size = l.length := ofL_size l
    have HE1 := Lib.hid (show (ofL l).extract 0 (dotAt l) = ofL (l.take (dotAt l)) by rw [ofL_extract, List.drop_zero, Nat.sub_zero])
    have HE2 := Lib.hid (show (ofL l).extract (dotAt l + 1) (ofL l).size = ofL (l.drop (dotAt l + 1)) by rw [ofL_extract, hsz, List.take_of_length_le (by rw [List.length_drop]; omega)])
    generalize ofL l = s at *
    generalize ofL (l.take (dotAt l)) = s1 at *
    generalize ofL (l.drop (dotAt l + 1)) = s2 at *
    simp only [if_pos h]
    have HI := Lib.hid hI
    have hd : dotAt l < s.size := by omega
    have hsl : s.size ≤ 9223372036854775807 := by omega
    generalize dotAt l = d at *
    clear hI h hsz hl
    go_enter Tryz.func210, Tryz.ntmps210
    go_wp2_with fail
    refine HI.out.mono ?_
    rintro e w' ⟨rfl, rfl⟩
    go_wp2_with fail
    go_quiet (fail)
    go_wp2
    go_ret3
    refine ⟨?_, _, rfl⟩
    rw [← HE1.out, ← HE2.out]
    rfl
  · rw [if_neg h] at hI
    simp only [if_neg h]
    have HI := Lib.hid hI
    generalize ofL l = s at *
    clear hI h hl
    go_enter Tryz.func210, Tryz.ntmps210
    go_wp2_with fail
    refine HI.out.mono ?_
    rintro e w' ⟨rfl, rfl⟩
    go_wp2
    go_ret3
    exact ⟨rfl, 0, rfl⟩
set_option maxRecDepth 100000 in
theorem Cut_any (l : List UInt8) (w : World) (hl : l.length ≤ maxLen) :
    Calls Tryz.prog 173 #[.string (ofL l), .string ⟨#[46]⟩] w fun e w' => (if dotAt l < l.length then e = .returned (.tuple #[.string (ofL (l.take (dotAt l))), .string (ofL (l.drop (dotAt l + 1))), .bool true]) else e = .returned (.tuple #[.string (ofL l), .string ByteArray.empty, .bool false])) ∧ ∃ n, w' = w.drewN n := by
  have hI := SlCut_any l w hl
  by_cases h : dotAt l < l.length
  · simp only [if_pos h] at hI ⊢
    have HI := Lib.hid hI
    generalize ofL l = s at *
    generalize ofL (l.take (dotAt l)) = s1 at *
    generalize ofL (l.drop (dotAt l + 1)) = s2 at *
    clear hI h hl
    go_enter Tryz.func173, Tryz.ntmps173
    go_wp2_with fail
    refine HI.out.mono ?_
    rintro e w' ⟨rfl, n, rfl⟩
    go_wp2
    go_ret3
    exact ⟨rfl, _, rfl⟩
  · simp only [if_neg h] at hI ⊢
    have HI := Lib.hid hI
    generalize ofL l = s at *
    clear hI h hl
    go_enter Tryz.func173, Tryz.ntmps173
    go_wp2_with fail
    refine HI.out.mono ?_
    rintro e w' ⟨rfl, n, rfl⟩
    go_wp2
    go_ret3
    exact ⟨rfl, _, rfl⟩
set_option maxRecDepth 100000 in
set_option maxHeartbeats 1000000 in
theorem Digits_any (s : ByteArray) (most : Nat) (w : World) (hs : s.size ≤ maxLen) (hm : most ≤ 13) :
    Calls Tryz.prog 175 #[.string s, .int .i64 most] w fun e w' => e = .returned (.tuple #[.int .i64 ((digitsP s.data.toList most).1 : Int), .bool (digitsP s.data.toList most).2]) ∧ w = w' := by
  have hsz : s.data.toList.length = s.size := by simp
  unfold maxLen at hs
  by_cases h1 : s.size < 1
  · have HF := Lib.hid (show digitsP s.data.toList most = (0, false) by unfold digitsP; rw [if_pos (.inl (by omega))])
    have h2 : s.size = 0 := by omega
    clear hsz h1
    go_enter Tryz.func175, Tryz.ntmps175
    go_wp2
    go_ret2
    exact ⟨by rw [HF.out]; rfl, rfl⟩
  by_cases h2 : most < s.size
  · have HF := Lib.hid (show digitsP s.data.toList most = (0, false) by unfold digitsP; rw [if_pos (.inr (by omega))])
    clear hsz
    go_enter Tryz.func175, Tryz.ntmps175
    go_wp2
    go_ret2
    exact ⟨by rw [HF.out]; rfl, rfl⟩
  · have HF := Lib.hid (show digitsP s.data.toList most = if s.data.toList.all isDig = true then (decVal s.data.toList, true) else (0, false) by unfold digitsP; rw [if_neg (by omega)])
    have HSZ := Lib.hid hsz
    clear hsz
    go_enter Tryz.func175, Tryz.ntmps175
    go_wp2
    go_loop [6, 7, 19] (fun n _ i => ∃ k : Nat, k ≤ s.size ∧ i = .int .i64 k ∧ n = .int .i64 (decVal (s.data.toList.take k) : Int) ∧ Hid ((s.data.toList.take k).all isDig = true)) (fun _ _ i => s.size - (intOf i).toNat)
    case atStart => exact ⟨0, by omega, rfl, rfl, Lib.hid rfl⟩
    case round =>
      obtain ⟨k, hk, rfl, rfl, HA⟩ := hrel
      by_cases hlt : k < s.size
      · obtain ⟨hl1, hl2⟩ := bl_list hlt
        have hv := decVal_lt k (by rw [List.length_take]; omega) HA.out
        have hv2 : decVal (s.data.toList.take k) < 10000000000000 := Nat.lt_of_lt_of_le hv (Nat.le_trans (Nat.pow_le_pow_right (by decide) (show k ≤ 13 by omega)) (by decide))
        have HVN := Lib.hid (val_next hl2)
        have HAN := Lib.hid (all_next hl2 HA.out)
        have HNA := Lib.hid (not_all hl2)
        have hb' : s[k].toNat < 256 := UInt8.toNat_lt _
        have HDT := Lib.hid (isDig_t (c := s[k]))
        have HDF := Lib.hid (isDig_f (c := s[k]))
        clear hv hl2
        generalize decVal (s.data.toList.take k) = n at *
        by_cases hd1 : s[k].toNat < 48
        · have HFF := Lib.hid (HF.out.trans (if_neg (by rw [HNA.out (HDF.out (.inl hd1))]; simp)))
          clear HVN HAN
          go_wp2
          go_ret2
          exact ⟨by rw [HFF.out]; rfl, rfl⟩
        · by_cases hd2 : 57 < s[k].toNat
          · have HFF := Lib.hid (HF.out.trans (if_neg (by rw [HNA.out (HDF.out (.inr hd2))]; simp)))
            clear HVN HAN
            go_wp2
            go_ret2
            exact ⟨by rw [HFF.out]; rfl, rfl⟩
          · have HAN2 := Lib.hid (HAN.out (HDT.out (by omega) (by omega)))
            clear HAN
            go_wp2
            go_round
            case rel => exact ⟨k + 1, by omega, by go_num, by rw [HVN.out]; congr 1; omega, HAN2⟩
            case measure => simp [intOf]; omega
      · obtain rfl : k = s.size := by omega
        have HT := Lib.hid (show s.data.toList.take s.size = s.data.toList from List.take_of_length_le (by rw [HSZ.out]; exact Nat.le_refl _))
        have HFF := Lib.hid (HF.out.trans (if_pos (by have := HA.out; rw [HT.out] at this; exact this)))
        go_wp2
        go_ret2
        exact ⟨by rw [HFF.out, HT.out]; rfl, rfl⟩
end Go.Proofs.YtaffgndickdbiaaGreatDoor
namespace Go.Creel
open Go.RowKit
def finA (l : List UInt8) (a n : Int) : Int × Int × Int := if timeText a n = (ofL l, 0) then (a, n, 0) else (0, 0, 3)
theorem timeAns_no {l : List UInt8} {r : Raw} (h : r.ok = false) : timeAns l r = (0, 0, 3) := by unfold timeAns; rw [if_neg (by rw [h]; simp)]
theorem timeAns_ok {l : List UInt8} {r : Raw} (h : r.ok = true) : timeAns l r = finA l (fixS r.below r.second r.nano) (fixN r.below r.nano) := by
  unfold timeAns finA
  by_cases ht : timeText (fixS r.below r.second r.nano) (fixN r.below r.nano) = (ofL l, 0)
  · rw [if_pos ⟨h, ht⟩, if_pos ht]
  · rw [if_neg (fun e => ht e.2), if_neg ht]
theorem finA_pos {l : List UInt8} {a n e : Int} {t s : ByteArray} (hs : ofL l = s) (h : timeText a n = (t, e)) (he : e = 0) (ht : t = s) : finA l a n = (a, n, 0) := by
  unfold finA; rw [h, he, ht, hs, if_pos rfl]
theorem finA_err {l : List UInt8} {a n e : Int} {t : ByteArray} (h : timeText a n = (t, e)) (he : ¬ e = 0) : finA l a n = (0, 0, 3) := by
  unfold finA; rw [h, if_neg (fun q => he (congrArg Prod.snd q))]
theorem finA_text {l : List UInt8} {a n e : Int} {t s : ByteArray} (hs : ofL l = s) (h : timeText a n = (t, e)) (ht : ¬ t = s) : finA l a n = (0, 0, 3) := by
  unfold finA; rw [h, hs, if_neg (fun q => ht (congrArg Prod.fst q))]
theorem digitsP_lt (l : List UInt8) (m : Nat) : (digitsP l m).1 < 10 ^ m := by
  unfold digitsP
  split
  · exact Nat.pow_pos (by decide)
  · split
    · rename_i h1 h2
      exact Nat.lt_of_lt_of_le (decVal_lt _ rfl h2) (Nat.pow_le_pow_right (by decide) (by omega))
    · exact Nat.pow_pos (by decide)
theorem fix_tt {s n : Nat} (h : 0 < n) : fixS true s n = -(s : Int) - 1 ∧ fixN true n = 1000000000 - (n : Int) := by simp [fixS, fixN, h]
theorem fix_t0 {s : Nat} : fixS true s 0 = -(s : Int) ∧ fixN true 0 = 0 := by simp [fixS, fixN]
theorem fix_f {s n : Nat} : fixS false s n = (s : Int) ∧ fixN false n = (n : Int) := by simp [fixS, fixN]
theorem sne_t2 {a b : ByteArray} (h : ¬ a = b) : (!(a.toList == b.toList)) = true := by rw [seq_f h]; rfl
theorem sne_f2 {a b : ByteArray} (h : a = b) : (!(a.toList == b.toList)) = false := by rw [seq_t h]; rfl
theorem restOf_len (l : List UInt8) : (restOf l).length ≤ l.length := by
  unfold restOf
  split
  · simp
  · exact Nat.le_refl _
end Go.Creel
namespace Go.Proofs.YtaffgndickdbiaaGreatDoor
open Go.Creel Go.RowKit
set_option maxRecDepth 100000 in
set_option maxHeartbeats 4000000 in
theorem StampParse_any (l : List UInt8) (w : World) (hl : l.length ≤ maxLen) (hT : Pow10 w) :
    Calls Tryz.prog 123 #[.string (ofL l)] w fun e w' => e = .returned (.tuple #[.int .i64 (timeAns l (rawP l)).1, .int .i64 (timeAns l (rawP l)).2.1, .int .i64 (timeAns l (rawP l)).2.2]) ∧ Below w.heap.size w w' := by
  have HT := Lib.hid hT
  have HP := Lib.hid (fun w => CutPre_any l w)
  have hrl : (restOf l).length ≤ maxLen := Nat.le_trans (restOf_len l) hl
  have HC := Lib.hid (fun w => Cut_any (restOf l) w hrl)
  clear hT
  unfold maxLen at hl hrl
  by_cases h : dotAt (restOf l) < (restOf l).length
  · have HR := Lib.hid (show rawP l = ⟨belowOf l, (digitsP ((restOf l).take (dotAt (restOf l))) 13).1, (digitsP (partPad ((restOf l).drop (dotAt (restOf l) + 1))) 9).1, (digitsP ((restOf l).take (dotAt (restOf l))) 13).2 && (digitsP (partPad ((restOf l).drop (dotAt (restOf l) + 1))) 9).2⟩ from if_pos h)
    simp only [if_pos h] at HC
    have hd1 : (ofL ((restOf l).take (dotAt (restOf l)))).size ≤ maxLen := by rw [ofL_size, List.length_take]; unfold maxLen; omega
    have HD1 := Lib.hid (fun w => Digits_any (ofL ((restOf l).take (dotAt (restOf l)))) 13 w hd1 (by omega))
    rw [ofL_data] at HD1
    have hpl : ((restOf l).drop (dotAt (restOf l) + 1)).length ≤ 9223372036854775806 := by rw [List.length_drop]; omega
    have hk1 := digitsP_lt ((restOf l).take (dotAt (restOf l))) 13
    have hk2 := digitsP_lt (partPad ((restOf l).drop (dotAt (restOf l) + 1))) 9
    generalize (restOf l).drop (dotAt (restOf l) + 1) = pt at *
    generalize ofL ((restOf l).take (dotAt (restOf l))) = s1 at *
    have HPD := Lib.hid (show ofL pt ++ ofL (List.replicate (9 - pt.length) (48 : UInt8)) = ofL (partPad pt) by rw [ofL_append]; rfl)
    have hpp : (ofL (partPad pt)).size ≤ maxLen := by rw [ofL_size]; unfold partPad maxLen; rw [List.length_append, List.length_replicate]; omega
    have HD2 := Lib.hid (fun w => Digits_any (ofL (partPad pt)) 9 w hpp (by omega))
    rw [ofL_data] at HD2
    have HRP := Lib.hid (fun (w : World) (c : Int) (h0 : 0 ≤ c) (h1 : c ≤ 1000000) => Repeat48_any c w h0 h1)
    have hps : (ofL pt).size = pt.length := ofL_size pt
    have hpr : (ofL (List.replicate (9 - pt.length) (48 : UInt8))).size = 9 - pt.length := by rw [ofL_size, List.length_replicate]
    have hmax : (max (0 : Int) (9 - (pt.length : Int))).toNat = 9 - pt.length := by omega
    generalize digitsP ((restOf l).take (dotAt (restOf l))) 13 = g1 at *
    generalize digitsP (partPad pt) 9 = g2 at *
    obtain ⟨sec, ok1⟩ := g1
    obtain ⟨nano, ok2⟩ := g2
    simp only at hk1 hk2 HR HD1 HD2
    have hk1' : sec < 10000000000000 := hk1
    have hk2' : nano < 1000000000 := hk2
    clear hk1 hk2 h hd1 hrl hl
    generalize ofL (restOf l) = sr at *
    generalize hsl : ofL l = s at *
    have HSL := Lib.hid hsl
    clear hsl
    generalize hbe : belowOf l = be at *
    go_enter Tryz.func123, Tryz.ntmps123
    go_wp2_with fail
    refine (HP.out _).mono ?_
    rintro e w1 ⟨rfl, rfl⟩
    go_wp2_with fail
    refine (HC.out _).mono ?_
    rintro e w1 ⟨rfl, nd, rfl⟩
    go_wp2_with fail
    refine (HD1.out _).mono ?_
    rintro e w1 ⟨rfl, rfl⟩
    go_wp2_with fail
    refine (HRP.out _ _ (by omega) (by omega)).mono ?_
    rintro e w1 ⟨rfl, hb⟩
    have HB0 := Lib.hid ((below_draws w.heap.size w nd).trans hb)
    clear hb
    rw [hmax]
    go_wp2_with fail
    rw [HPD.out]
    refine (HD2.out _).mono ?_
    rintro e w1' ⟨rfl, rfl⟩
    clear HD1 HD2 HP HC HRP HPD hps hpr hmax hpp hpl
    cases ok1 with
    | false =>
      have HF := Lib.hid (timeAns_no (l := l) (r := rawP l) (by rw [HR.out]; rfl))
      go_wp2
      go_ret3
      exact ⟨ret_iii HF.out, HB0.out⟩
    | true =>
      cases ok2 with
      | false =>
        have HF := Lib.hid (timeAns_no (l := l) (r := rawP l) (by rw [HR.out]; rfl))
        go_wp2
        go_ret3
        exact ⟨ret_iii HF.out, HB0.out⟩
      | true =>
        have HF := Lib.hid (show timeAns l (rawP l) = finA l (fixS be sec nano) (fixN be nano) by rw [timeAns_ok (by rw [HR.out]; rfl), HR.out])
        clear hbe
        cases be with
        | true =>
          by_cases hn : 0 < nano
          · obtain ⟨f1, f2⟩ := fix_tt (s := sec) hn
            rw [f1, f2] at HF
            clear f1 f2
            have HFIN := Lib.hid HF.out
            have HTX := Lib.hid (fun w h => StampText_any (-(sec : Int) - 1) (1000000000 - (nano : Int)) w (by unfold i64; omega) (by unfold i64; omega) h)
            generalize htx : timeText (-(sec : Int) - 1) (1000000000 - (nano : Int)) = p at *
            obtain ⟨t, e0⟩ := p
            have HTE := Lib.hid htx
            clear htx
            go_wp2_with fail
            refine (HTX.out _ (HT.out.below HB0.out)).mono ?_
            rintro e w2 ⟨rfl, hb⟩
            have HB := Lib.hid (HB0.out.trans (hb.mono HB0.out.size))
            clear hb
            by_cases he : e0 = 0
            · have hn0 : (e0 != 0) = false := by rw [he]; rfl
              by_cases ht : t = s
              · have HFF := Lib.hid (HFIN.out.trans (finA_pos HSL.out HTE.out he ht))
                have hq := sne_f2 ht
                clear he ht
                go_wp2
                go_ret3
                exact ⟨ret_iii HFF.out, HB.out⟩
              · have HFF := Lib.hid (HFIN.out.trans (finA_text HSL.out HTE.out ht))
                have hq := sne_t2 ht
                clear he ht
                go_wp2
                go_ret3
                exact ⟨ret_iii HFF.out, HB.out⟩
            · have hn0 : (e0 != 0) = true := by rw [bne_iff_ne]; exact he
              have HFF := Lib.hid (HFIN.out.trans (finA_err HTE.out he))
              clear he
              go_wp2
              go_ret3
              exact ⟨ret_iii HFF.out, HB.out⟩
          · obtain rfl : nano = 0 := by omega
            obtain ⟨f1, f2⟩ := fix_t0 (s := sec)
            rw [f1, f2] at HF
            clear f1 f2
            have HFIN := Lib.hid HF.out
            have HTX := Lib.hid (fun w h => StampText_any (-(sec : Int)) (0) w (by unfold i64; omega) (by unfold i64; omega) h)
            generalize htx : timeText (-(sec : Int)) (0) = p at *
            obtain ⟨t, e0⟩ := p
            have HTE := Lib.hid htx
            clear htx
            go_wp2_with fail
            refine (HTX.out _ (HT.out.below HB0.out)).mono ?_
            rintro e w2 ⟨rfl, hb⟩
            have HB := Lib.hid (HB0.out.trans (hb.mono HB0.out.size))
            clear hb
            by_cases he : e0 = 0
            · have hn0 : (e0 != 0) = false := by rw [he]; rfl
              by_cases ht : t = s
              · have HFF := Lib.hid (HFIN.out.trans (finA_pos HSL.out HTE.out he ht))
                have hq := sne_f2 ht
                clear he ht
                go_wp2
                go_ret3
                exact ⟨ret_iii HFF.out, HB.out⟩
              · have HFF := Lib.hid (HFIN.out.trans (finA_text HSL.out HTE.out ht))
                have hq := sne_t2 ht
                clear he ht
                go_wp2
                go_ret3
                exact ⟨ret_iii HFF.out, HB.out⟩
            · have hn0 : (e0 != 0) = true := by rw [bne_iff_ne]; exact he
              have HFF := Lib.hid (HFIN.out.trans (finA_err HTE.out he))
              clear he
              go_wp2
              go_ret3
              exact ⟨ret_iii HFF.out, HB.out⟩
        | false =>
          obtain ⟨f1, f2⟩ := fix_f (s := sec) (n := nano)
          rw [f1, f2] at HF
          clear f1 f2
          have HFIN := Lib.hid HF.out
          have HTX := Lib.hid (fun w h => StampText_any ((sec : Int)) ((nano : Int)) w (by unfold i64; omega) (by unfold i64; omega) h)
          generalize htx : timeText ((sec : Int)) ((nano : Int)) = p at *
          obtain ⟨t, e0⟩ := p
          have HTE := Lib.hid htx
          clear htx
          go_wp2_with fail
          refine (HTX.out _ (HT.out.below HB0.out)).mono ?_
          rintro e w2 ⟨rfl, hb⟩
          have HB := Lib.hid (HB0.out.trans (hb.mono HB0.out.size))
          clear hb
          by_cases he : e0 = 0
          · have hn0 : (e0 != 0) = false := by rw [he]; rfl
            by_cases ht : t = s
            · have HFF := Lib.hid (HFIN.out.trans (finA_pos HSL.out HTE.out he ht))
              have hq := sne_f2 ht
              clear he ht
              go_wp2
              go_ret3
              exact ⟨ret_iii HFF.out, HB.out⟩
            · have HFF := Lib.hid (HFIN.out.trans (finA_text HSL.out HTE.out ht))
              have hq := sne_t2 ht
              clear he ht
              go_wp2
              go_ret3
              exact ⟨ret_iii HFF.out, HB.out⟩
          · have hn0 : (e0 != 0) = true := by rw [bne_iff_ne]; exact he
            have HFF := Lib.hid (HFIN.out.trans (finA_err HTE.out he))
            clear he
            go_wp2
            go_ret3
            exact ⟨ret_iii HFF.out, HB.out⟩
  · have HR := Lib.hid (show rawP l = ⟨belowOf l, (digitsP (restOf l) 13).1, 0, (digitsP (restOf l) 13).2⟩ from if_neg h)
    simp only [if_neg h] at HC
    have hd1 : (ofL (restOf l)).size ≤ maxLen := by rw [ofL_size]; unfold maxLen; omega
    have HD1 := Lib.hid (fun w => Digits_any (ofL (restOf l)) 13 w hd1 (by omega))
    rw [ofL_data] at HD1
    have hk1 := digitsP_lt (restOf l) 13
    generalize digitsP (restOf l) 13 = g1 at *
    obtain ⟨sec, ok1⟩ := g1
    simp only at hk1 HR HD1
    have hk1' : sec < 10000000000000 := hk1
    clear hk1 h hd1 hrl hl
    generalize ofL (restOf l) = sr at *
    generalize hsl : ofL l = s at *
    have HSL := Lib.hid hsl
    clear hsl
    generalize hbe : belowOf l = be at *
    go_enter Tryz.func123, Tryz.ntmps123
    go_wp2_with fail
    refine (HP.out _).mono ?_
    rintro e w1 ⟨rfl, rfl⟩
    go_wp2_with fail
    refine (HC.out _).mono ?_
    rintro e w1 ⟨rfl, nd, rfl⟩
    have HB0 := Lib.hid (below_draws w.heap.size w nd)
    go_wp2_with fail
    refine (HD1.out _).mono ?_
    rintro e w1 ⟨rfl, rfl⟩
    clear HD1 HP HC
    cases ok1 with
    | false =>
      have HF := Lib.hid (timeAns_no (l := l) (r := rawP l) (by rw [HR.out]))
      go_wp2
      go_ret3
      exact ⟨ret_iii HF.out, HB0.out⟩
    | true =>
      have HF := Lib.hid (show timeAns l (rawP l) = finA l (fixS be sec 0) (fixN be 0) by rw [timeAns_ok (by rw [HR.out]), HR.out])
      clear hbe
      cases be with
      | true =>
        obtain ⟨f1, f2⟩ := fix_t0 (s := sec)
        rw [f1, f2] at HF
        clear f1 f2
        have HFIN := Lib.hid HF.out
        have HTX := Lib.hid (fun w h => StampText_any (-(sec : Int)) (0) w (by unfold i64; omega) (by unfold i64; omega) h)
        generalize htx : timeText (-(sec : Int)) (0) = p at *
        obtain ⟨t, e0⟩ := p
        have HTE := Lib.hid htx
        clear htx
        go_wp2_with fail
        refine (HTX.out _ (HT.out.below HB0.out)).mono ?_
        rintro e w2 ⟨rfl, hb⟩
        have HB := Lib.hid (HB0.out.trans (hb.mono HB0.out.size))
        clear hb
        by_cases he : e0 = 0
        · have hn0 : (e0 != 0) = false := by rw [he]; rfl
          by_cases ht : t = s
          · have HFF := Lib.hid (HFIN.out.trans (finA_pos HSL.out HTE.out he ht))
            have hq := sne_f2 ht
            clear he ht
            go_wp2
            go_ret3
            exact ⟨ret_iii HFF.out, HB.out⟩
          · have HFF := Lib.hid (HFIN.out.trans (finA_text HSL.out HTE.out ht))
            have hq := sne_t2 ht
            clear he ht
            go_wp2
            go_ret3
            exact ⟨ret_iii HFF.out, HB.out⟩
        · have hn0 : (e0 != 0) = true := by rw [bne_iff_ne]; exact he
          have HFF := Lib.hid (HFIN.out.trans (finA_err HTE.out he))
          clear he
          go_wp2
          go_ret3
          exact ⟨ret_iii HFF.out, HB.out⟩
      | false =>
        obtain ⟨f1, f2⟩ := fix_f (s := sec) (n := 0)
        rw [f1, f2] at HF
        clear f1 f2
        have HFIN := Lib.hid HF.out
        have HTX := Lib.hid (fun w h => StampText_any ((sec : Int)) (0) w (by unfold i64; omega) (by unfold i64; omega) h)
        generalize htx : timeText ((sec : Int)) (0) = p at *
        obtain ⟨t, e0⟩ := p
        have HTE := Lib.hid htx
        clear htx
        go_wp2_with fail
        refine (HTX.out _ (HT.out.below HB0.out)).mono ?_
        rintro e w2 ⟨rfl, hb⟩
        have HB := Lib.hid (HB0.out.trans (hb.mono HB0.out.size))
        clear hb
        by_cases he : e0 = 0
        · have hn0 : (e0 != 0) = false := by rw [he]; rfl
          by_cases ht : t = s
          · have HFF := Lib.hid (HFIN.out.trans (finA_pos HSL.out HTE.out he ht))
            have hq := sne_f2 ht
            clear he ht
            go_wp2
            go_ret3
            exact ⟨ret_iii HFF.out, HB.out⟩
          · have HFF := Lib.hid (HFIN.out.trans (finA_text HSL.out HTE.out ht))
            have hq := sne_t2 ht
            clear he ht
            go_wp2
            go_ret3
            exact ⟨ret_iii HFF.out, HB.out⟩
        · have hn0 : (e0 != 0) = true := by rw [bne_iff_ne]; exact he
          have HFF := Lib.hid (HFIN.out.trans (finA_err HTE.out he))
          clear he
          go_wp2
          go_ret3
          exact ⟨ret_iii HFF.out, HB.out⟩
end Go.Proofs.YtaffgndickdbiaaGreatDoor
