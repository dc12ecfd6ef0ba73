/-
  Texts: Stamp, Cut, Nodes.
-/
import Derived.Test.YtaffgndickdbiaaGreatDoorU03
set_option linter.unusedVariables false
set_option linter.unusedSimpArgs false
set_option linter.unusedSectionVars false
namespace Go.Creel
open Go.RowKit
theorem repeatL_one' (c : UInt8) (n : Nat) : Lib.repeatL [c] n = List.replicate n c := by
  induction n with
  | zero => rfl
  | succ n ih => simp [Lib.repeatL, List.replicate_succ, ih]
theorem itoa_pos {n : Int} (h : 0 ≤ n) : Lib.itoa n = Lib.decDigits n.toNat := by
  unfold Lib.itoa
  rw [if_neg (by omega)]
theorem itoa_len9 {n : Int} (h0 : 0 ≤ n) (h1 : n ≤ 999999999) : (Lib.itoa n).length ≤ 9 := by
  rw [itoa_pos h0, Lib.decDigits_length]
  exact nDigits_le 8 _ (by have : (10:Nat) ^ 9 = 1000000000 := by decide
                           omega)
theorem padded {n : Int} (h0 : 0 ≤ n) (h1 : n ≤ 999999999) : ofL (List.replicate (9 - (Lib.itoa n).length) 48) ++ ofL (Lib.itoa n) = ofL (digs9 n.toNat 9) := by
  rw [itoa_pos h0, ofL_append, pad9 (by have : (10:Nat) ^ 9 = 1000000000 := by decide
                                        omega)]
theorem timeText_bad {s n : Int} (h : ¬ timeFault s n = 0) : timeText s n = (ByteArray.empty, timeFault s n) := if_pos h
theorem timeText_whole {s n : Int} {a : ByteArray} {S : Int} (h : timeFault s n = 0) (hs : timeSign s = a) (hS : timeS s n = S) (hN : timeN s n = 0) : timeText s n = (a ++ ofL (Lib.itoa S), 0) := by
  unfold timeText timeHead
  rw [if_neg (by simpa using h), if_pos hN, hs, hS]
theorem timeText_part {s n : Int} {a : ByteArray} {S N : Int} (h : timeFault s n = 0) (hs : timeSign s = a) (hS : timeS s n = S) (hN : timeN s n = N) (hne : N ≠ 0) : timeText s n = (a ++ ofL (Lib.itoa S) ++ ofL [46] ++ ofL (Lib.trimRightB (digs9 N.toNat 9) 48), 0) := by
  unfold timeText timeHead
  rw [if_neg (by simpa using h), hN, if_neg hne, hs, hS]
theorem trimRightB_le (l : List UInt8) (c : UInt8) : (Lib.trimRightB l c).length ≤ l.length := by
  unfold Lib.trimRightB
  rw [List.length_reverse]
  exact Nat.le_trans (List.dropWhile_suffix _).length_le (by rw [List.length_reverse]; exact Nat.le_refl _)
theorem sg_neg {d : ByteArray} (h : d.size ≤ 13) : ((⟨#[45]⟩ : ByteArray) ++ d ++ ⟨#[46]⟩).size ≤ 15 := by
  rw [ByteArray.size_append, ByteArray.size_append]
  have e1 : (⟨#[45]⟩ : ByteArray).size = 1 := rfl
  have e2 : (⟨#[46]⟩ : ByteArray).size = 1 := rfl
  omega
theorem sg_pos {d : ByteArray} (h : d.size ≤ 13) : ((⟨#[]⟩ : ByteArray) ++ d ++ ⟨#[46]⟩).size ≤ 15 := by
  rw [ByteArray.size_append, ByteArray.size_append]
  have e1 : (⟨#[]⟩ : ByteArray).size = 0 := rfl
  have e2 : (⟨#[46]⟩ : ByteArray).size = 1 := rfl
  omega
theorem app_zero (t : ByteArray) (N : Nat) : t ++ ofL (digs9 N 0) = t := by
  apply ByteArray.ext
  simp [digs9, ofL]
def unitN (k : Nat) : Nat := if k < 9 then 10 ^ (8 - k) else 0
theorem unitN_at {k : Nat} (h : k < 9) : unitN k = 10 ^ (8 - k) := if_pos h
theorem unitN_pos {k : Nat} (h : k < 9) : 0 < unitN k ∧ unitN k ≤ 100000000 := by
  rw [unitN_at h]
  exact ⟨Nat.pos_of_ne_zero (by simp), Nat.le_trans (Nat.pow_le_pow_right (by decide) (show 8 - k ≤ 8 by omega)) (by decide)⟩
theorem unitN_next {k : Nat} (h : k < 9) : unitN k / 10 = unitN (k + 1) := by
  rw [unitN_at h]
  unfold unitN
  by_cases h1 : k + 1 < 9
  · rw [if_pos h1, show 8 - k = (8 - (k + 1)) + 1 by omega, Nat.pow_succ]
    exact Nat.mul_div_cancel _ (by decide)
  · rw [if_neg h1, show 8 - k = 0 by omega]
theorem digit_ten (x : Nat) (h : x < 10) : (ofL [48, 49, 50, 51, 52, 53, 54, 55, 56, 57]).extract x (x + 1) = ofL [UInt8.ofNat (48 + x)] := by
  match x, h with
  | 0, _ | 1, _ | 2, _ | 3, _ | 4, _ | 5, _ | 6, _ | 7, _ | 8, _ | 9, _ => rfl
end Go.Creel
namespace Go.Proofs.YtaffgndickdbiaaGreatDoor
open Go.Creel Go.RowKit
theorem Repeat48_any (c : Int) (w : World) (h0 : 0 ≤ c) (h1 : c ≤ 1000000) :
    Calls Tryz.prog 98 #[.string ⟨#[48]⟩, .int .i64 c] w fun e w' => e = .returned (.string (ofL (List.replicate c.toNat 48))) ∧ Below w.heap.size w w' := by
  obtain ⟨n, rfl⟩ := Int.eq_ofNat_of_zero_le h0
  have := Tryz.strings_Repeat ⟨#[48]⟩ n w (by omega) (by show 1 * n ≤ _; omega)
  refine this.mono ?_
  rintro e w' ⟨rfl, hb⟩
  refine ⟨?_, hb⟩
  show Ending.returned (.string ⟨(Lib.repeatL [48] n).toArray⟩) = _
  rw [repeatL_one']
  rfl
theorem Trim48_any (s : ByteArray) (w : World) (hs : s.size ≤ 9223372036854775807) :
    Calls Tryz.prog 148 #[.string s, .string ⟨#[48]⟩] w fun e w' => e = .returned (.string (ofL (Lib.trimRightB s.data.toList 48))) ∧ w = w' := by
  refine (Tryz.strings_TrimRight_one s 48 (by decide) w hs).mono ?_
  rintro e w' ⟨rfl, rfl⟩
  exact ⟨rfl, rfl⟩
set_option maxRecDepth 100000 in
set_option maxHeartbeats 2000000 in
theorem StampText_any (s n : Int) (w : World) (hs : i64 s) (hn : i64 n) (hT : Pow10 w) :
    Calls Tryz.prog 88 #[.int .i64 s, .int .i64 n] w fun e w' => e = .returned (.tuple #[.string (timeText s n).1, .int .i64 (timeText s n).2]) ∧ Below w.heap.size w w' := by
  have HC := Lib.hid (fun w => StampCheck_any s n w)
  have HT := Lib.hid hT
  clear hT
  by_cases h : timeFault s n = 0
  · obtain ⟨h1, h2, h3, h4⟩ := timeFault_ok h
    have H := Lib.hid h
    clear hs hn
    by_cases hs0 : s < 0
    · have HS := Lib.hid (show timeSign s = ofL [45] from if_pos hs0)
      by_cases hn0 : 0 < n
      · have hS : timeS s n = -s - 1 := by unfold timeS; rw [if_pos hs0, if_pos hn0]
        have hN : timeN s n = 1000000000 - n := by unfold timeN; rw [if_pos ⟨hs0, hn0⟩]
        have HF := Lib.hid (timeText_part H.out HS.out hS hN (by omega))
        clear hS hN h
        go_enter Tryz.func88, Tryz.ntmps88
        go_wp2_with fail
        refine (HC.out _).mono ?_
        rintro e w1 ⟨rfl, rfl⟩
        rw [H.out]
        go_wp2_with fail
        refine (Itoa_any _ _ (by unfold i64; omega) HT.out).mono ?_
        rintro e w2 ⟨rfl, hb⟩
        have HB := Lib.hid hb
        have hz : (ofL (Lib.itoa (-s - 1))).size ≤ 13 := by rw [ofL_size]; exact itoa_len13 (by omega) (by omega)
        clear hb
        generalize ofL (Lib.itoa (-s - 1)) = d at *
        have hNp : ((1000000000 - n : Int) == 0) = false := by rw [beq_eq_false_iff_ne]; omega
        go_wp2_with fail
        refine (Itoa_any _ _ (by unfold i64; omega) (HT.out.below HB.out)).mono ?_
        rintro e w3 ⟨rfl, hb⟩
        have HB3 := Lib.hid (HB.out.trans (hb.mono HB.out.size))
        have HP := Lib.hid (padded (n := 1000000000 - n) (by omega) (by omega))
        have hq : (ofL (Lib.itoa (1000000000 - n))).size ≤ 9 := by rw [ofL_size]; exact itoa_len9 (by omega) (by omega)
        rw [← ofL_size (Lib.itoa (1000000000 - n))] at HP
        clear hb
        generalize ofL (Lib.itoa (1000000000 - n)) = r at *
        go_wp2_with fail
        refine (Repeat48_any _ _ (by omega) (by omega)).mono ?_
        rintro e w4 ⟨rfl, hb⟩
        have HB4 := Lib.hid (HB3.out.trans (hb.mono HB3.out.size))
        clear hb
        have e9 : ((9 : Int) - (r.size : Int)).toNat = 9 - r.size := by omega
        rw [e9]
        have hr : (ofL (List.replicate (9 - r.size) (48 : UInt8))).size ≤ 9 := by rw [ofL_size]; simp
        generalize ofL (List.replicate (9 - r.size) (48 : UInt8)) = z at *
        go_wp2_with fail
        rw [HP.out]
        refine (Trim48_any _ _ (by rw [ofL_size, digs9_len]; omega)).mono ?_
        rintro e w5 ⟨rfl, rfl⟩
        rw [ofL_data]
        have ht : (ofL (Lib.trimRightB (digs9 (1000000000 - n : Int).toNat 9) 48)).size ≤ 9 := by rw [ofL_size]; exact Nat.le_trans (trimRightB_le _ _) (by rw [digs9_len]; omega)
        generalize ofL (Lib.trimRightB (digs9 (1000000000 - n : Int).toNat 9) 48) = tr at *
        go_wp2
        go_ret2
        exact ⟨ret_si HF.out, HB4.out⟩
      · have hS : timeS s n = -s := by unfold timeS; rw [if_pos hs0, if_neg hn0]
        have hN : timeN s n = n := by unfold timeN; rw [if_neg (by omega)]
        obtain rfl : n = 0 := by omega
        have HF := Lib.hid (timeText_whole H.out HS.out hS hN)
        clear hS hN h
        go_enter Tryz.func88, Tryz.ntmps88
        go_wp2_with fail
        refine (HC.out _).mono ?_
        rintro e w1 ⟨rfl, rfl⟩
        rw [H.out]
        go_wp2_with fail
        refine (Itoa_any _ _ (by unfold i64; omega) HT.out).mono ?_
        rintro e w2 ⟨rfl, hb⟩
        have HB := Lib.hid hb
        have hz : (ofL (Lib.itoa (-s))).size ≤ 13 := by rw [ofL_size]; exact itoa_len13 (by omega) (by omega)
        clear hb
        generalize ofL (Lib.itoa (-s)) = d at *
        go_wp2
        go_ret2
        exact ⟨ret_si HF.out, HB.out⟩
    · have HS := Lib.hid (show timeSign s = ByteArray.empty from if_neg hs0)
      by_cases hn0 : 0 < n
      · have hS : timeS s n = s := by unfold timeS; rw [if_neg hs0]
        have hN : timeN s n = n := by unfold timeN; rw [if_neg (by omega)]
        have HF := Lib.hid (timeText_part H.out HS.out hS hN (by omega))
        clear hS hN h
        go_enter Tryz.func88, Tryz.ntmps88
        go_wp2_with fail
        refine (HC.out _).mono ?_
        rintro e w1 ⟨rfl, rfl⟩
        rw [H.out]
        go_wp2_with fail
        refine (Itoa_any _ _ (by unfold i64; omega) HT.out).mono ?_
        rintro e w2 ⟨rfl, hb⟩
        have HB := Lib.hid hb
        have hz : (ofL (Lib.itoa (s))).size ≤ 13 := by rw [ofL_size]; exact itoa_len13 (by omega) (by omega)
        clear hb
        generalize ofL (Lib.itoa (s)) = d at *
        have hNp : ((n : Int) == 0) = false := by rw [beq_eq_false_iff_ne]; omega
        go_wp2_with fail
        refine (Itoa_any _ _ (by unfold i64; omega) (HT.out.below HB.out)).mono ?_
        rintro e w3 ⟨rfl, hb⟩
        have HB3 := Lib.hid (HB.out.trans (hb.mono HB.out.size))
        have HP := Lib.hid (padded (n := n) (by omega) (by omega))
        have hq : (ofL (Lib.itoa (n))).size ≤ 9 := by rw [ofL_size]; exact itoa_len9 (by omega) (by omega)
        rw [← ofL_size (Lib.itoa (n))] at HP
        clear hb
        generalize ofL (Lib.itoa (n)) = r at *
        go_wp2_with fail
        refine (Repeat48_any _ _ (by omega) (by omega)).mono ?_
        rintro e w4 ⟨rfl, hb⟩
        have HB4 := Lib.hid (HB3.out.trans (hb.mono HB3.out.size))
        clear hb
        have e9 : ((9 : Int) - (r.size : Int)).toNat = 9 - r.size := by omega
        rw [e9]
        have hr : (ofL (List.replicate (9 - r.size) (48 : UInt8))).size ≤ 9 := by rw [ofL_size]; simp
        generalize ofL (List.replicate (9 - r.size) (48 : UInt8)) = z at *
        go_wp2_with fail
        rw [HP.out]
        refine (Trim48_any _ _ (by rw [ofL_size, digs9_len]; omega)).mono ?_
        rintro e w5 ⟨rfl, rfl⟩
        rw [ofL_data]
        have ht : (ofL (Lib.trimRightB (digs9 (n : Int).toNat 9) 48)).size ≤ 9 := by rw [ofL_size]; exact Nat.le_trans (trimRightB_le _ _) (by rw [digs9_len]; omega)
        generalize ofL (Lib.trimRightB (digs9 (n : Int).toNat 9) 48) = tr at *
        go_wp2
        go_ret2
        exact ⟨ret_si HF.out, HB4.out⟩
      · have hS : timeS s n = s := by unfold timeS; rw [if_neg hs0]
        have hN : timeN s n = n := by unfold timeN; rw [if_neg (by omega)]
        obtain rfl : n = 0 := by omega
        have HF := Lib.hid (timeText_whole H.out HS.out hS hN)
        clear hS hN h
        go_enter Tryz.func88, Tryz.ntmps88
        go_wp2_with fail
        refine (HC.out _).mono ?_
        rintro e w1 ⟨rfl, rfl⟩
        rw [H.out]
        go_wp2_with fail
        refine (Itoa_any _ _ (by unfold i64; omega) HT.out).mono ?_
        rintro e w2 ⟨rfl, hb⟩
        have HB := Lib.hid hb
        have hz : (ofL (Lib.itoa (s))).size ≤ 13 := by rw [ofL_size]; exact itoa_len13 (by omega) (by omega)
        clear hb
        generalize ofL (Lib.itoa (s)) = d at *
        go_wp2
        go_ret2
        exact ⟨ret_si HF.out, HB.out⟩
  · have HF := Lib.hid (timeText_bad h)
    have hne : (timeFault s n != 0) = true := by rw [bne_iff_ne]; exact h
    generalize timeFault s n = q at *
    clear h hs hn
    go_enter Tryz.func88, Tryz.ntmps88
    go_wp2_with fail
    refine (HC.out _).mono ?_
    rintro e w1 ⟨rfl, rfl⟩
    go_wp2
    go_ret2
    exact ⟨ret_si HF.out, Below.refl _ _⟩
set_option maxRecDepth 100000 in
set_option maxHeartbeats 2000000 in
theorem TimeText_any (s n : Int) (w : World) (hs : i64 s) (hn : i64 n) (hT : Pow10 w) :
    Calls Tryz.prog 103 #[.int .i64 s, .int .i64 n] w fun e w' => e = .returned (.tuple #[.string (timeText s n).1, .int .i64 (timeText s n).2]) ∧ Below w.heap.size w w' := by
  have HC := Lib.hid (fun w => TimeFault_any s n w)
  have HT := Lib.hid hT
  clear hT
  by_cases h : timeFault s n = 0
  · obtain ⟨h1, h2, h3, h4⟩ := timeFault_ok h
    have H := Lib.hid h
    clear hs hn
    by_cases hs0 : s < 0
    · have HS := Lib.hid (show timeSign s = ofL [45] from if_pos hs0)
      by_cases hn0 : 0 < n
      · have hS : timeS s n = -s - 1 := by unfold timeS; rw [if_pos hs0, if_pos hn0]
        have hN : timeN s n = 1000000000 - n := by unfold timeN; rw [if_pos ⟨hs0, hn0⟩]
        have HF := Lib.hid (timeText_part H.out HS.out hS hN (by omega))
        clear hS hN h
        go_enter Tryz.func103, Tryz.ntmps103
        go_wp2_with fail
        refine (HC.out _).mono ?_
        rintro e w1 ⟨rfl, rfl⟩
        rw [H.out]
        have hS2 : -(s + 1) = -s - 1 := by omega
        go_wp2_with fail
        refine (Itoa_any _ _ (by unfold i64; omega) HT.out).mono ?_
        rintro e w2 ⟨rfl, hb⟩
        have HB := Lib.hid hb
        have hz : (ofL (Lib.itoa (-s - 1))).size ≤ 13 := by rw [ofL_size]; exact itoa_len13 (by omega) (by omega)
        clear hb
        generalize ofL (Lib.itoa (-s - 1)) = d at *
        have hNp : ((1000000000 - n : Int) == 0) = false := by rw [beq_eq_false_iff_ne]; omega
        obtain ⟨N, hN⟩ := Int.eq_ofNat_of_zero_le (show (0 : Int) ≤ 1000000000 - n by omega)
        have hN0 : 0 < N := by omega
        have hN9 : N < 1000000000 := by omega
        go_wp2_with fail
        rw [hN] at HF
        rw [Int.toNat_natCast] at HF
        have HF2 := Lib.hid (show timeText s n = ((⟨#[45]⟩ : ByteArray) ++ d ++ ⟨#[46]⟩ ++ ofL (Lib.trimRightB (digs9 N 9) 48), 0) from HF.out)
        have hsg := sg_neg hz
        clear HF
        generalize (⟨#[45]⟩ : ByteArray) ++ d ++ ⟨#[46]⟩ = t at *
        go_loopw [1, 7, 8] (fun n x u wr => ∃ k : Nat, k ≤ 9 ∧ n = .int .i64 ((N % 10 ^ (9 - k) : Nat) : Int) ∧ u = .int .i64 (unitN k : Int) ∧ x = .string (t ++ ofL (digs9 N k)) ∧ Hid (k = 0 ∨ N % 10 ^ (10 - k) ≠ 0) ∧ ∃ m, wr = w2.drewN m) (fun n x u wr => (intOf u).toNat)
        case atStart => exact ⟨0, by omega, by rw [Nat.mod_eq_of_lt (by simpa using hN9)], rfl, congrArg Value.string (app_zero t N).symm, Lib.hid (.inl rfl), 0, rfl⟩
        case round =>
          obtain ⟨k, hk, rfl, rfl, rfl, HK, m, rfl⟩ := hrel
          by_cases hz0 : N % 10 ^ (9 - k) = 0
          · have HTR := Lib.hid (trim9 hk hz0 HK.out)
            rw [HTR.out] at HF2
            rw [hz0]
            clear hz0
            go_wp2
            go_ret2
            exact ⟨ret_si HF2.out, below_drewN HB.out m⟩
          · have hk9 : k < 9 := by
              rcases Nat.lt_or_ge k 9 with h | h
              · exact h
              · exfalso; apply hz0; rw [show 9 - k = 0 by omega]; simp [Nat.mod_one]
            have HK2 := Lib.hid (show k + 1 = 0 ∨ N % 10 ^ (10 - (k + 1)) ≠ 0 from .inr (by rw [show 10 - (k + 1) = 9 - k by omega]; exact hz0))
            have e1 := unit_digit N k hk9
            have e2 := unit_rest N k hk9
            have e3 := unitN_at hk9
            have e4 := unitN_next hk9
            have hdl : N / 10 ^ (8 - k) % 10 < 10 := Nat.mod_lt _ (by decide)
            have HDG := Lib.hid (show ofL (digs9 N k) ++ ofL [UInt8.ofNat (48 + N / 10 ^ (8 - k) % 10)] = ofL (digs9 N (k + 1)) by rw [digs9_succ, ofL_append]; rfl)
            have hup := unitN_pos hk9
            have hlen : (ofL (digs9 N k)).size ≤ 9 := by rw [ofL_size, digs9_len]; exact hk
            have hql : N % 10 ^ (9 - k) < 1000000000 := Nat.lt_of_le_of_lt (Nat.mod_le _ _) hN9
            generalize N / 10 ^ (8 - k) % 10 = dg at *
            rw [← e3] at e1 e2
            generalize hq2 : N % 10 ^ (9 - (k + 1)) = q2 at *
            have HQ2 := Lib.hid hq2
            clear hq2
            generalize N % 10 ^ (9 - k) = q at *
            generalize hu2 : unitN (k + 1) = u2 at *
            have HU2 := Lib.hid hu2
            clear hu2
            generalize unitN k = u at *
            clear e3
            have d1 : ((q : Int) / (u : Int)) = (dg : Int) := by rw [← e1]; rfl
            have d2 : ((q : Int) % (u : Int)) = (q2 : Int) := by rw [← e2]; rfl
            have d3 : ((u : Int) / 10) = (u2 : Int) := by rw [← e4]; rfl
            have d4 : (u : Int) ≠ 0 := by omega
            have HSTR := Lib.hid (show t ++ ofL (digs9 N k) ++ (⟨#[48, 49, 50, 51, 52, 53, 54, 55, 56, 57]⟩ : ByteArray).extract dg (dg + 1) = t ++ ofL (digs9 N (k + 1)) by rw [← HDG.out, ByteArray.append_assoc]; congr 2; exact digit_ten dg hdl)
            have d6 : (q : Int).tdiv (u : Int) = (dg : Int) := by rw [← e1]; rfl
            have d7 : (q : Int).tmod (u : Int) = (q2 : Int) := by rw [← e2]; rfl
            have d8 : (u : Int).tdiv 10 = (u2 : Int) := by rw [← e4]; rfl
            clear e1 e2 e4
            generalize digs9 N k = pre at *
            go_wp2_with fail
            go_quiet (fail)
            go_wp2
            go_roundw
            case rel => exact ⟨k + 1, by omega, by rw [HQ2.out], by rw [HU2.out], congrArg Value.string HSTR.out, HK2, _, rfl⟩
            case measure => simp [intOf]; omega
      · have hS : timeS s n = -s := by unfold timeS; rw [if_pos hs0, if_neg hn0]
        have hN : timeN s n = n := by unfold timeN; rw [if_neg (by omega)]
        obtain rfl : n = 0 := by omega
        have HF := Lib.hid (timeText_whole H.out HS.out hS hN)
        clear hS hN h
        go_enter Tryz.func103, Tryz.ntmps103
        go_wp2_with fail
        refine (HC.out _).mono ?_
        rintro e w1 ⟨rfl, rfl⟩
        rw [H.out]
        go_wp2_with fail
        refine (Itoa_any _ _ (by unfold i64; omega) HT.out).mono ?_
        rintro e w2 ⟨rfl, hb⟩
        have HB := Lib.hid hb
        have hz : (ofL (Lib.itoa (-s))).size ≤ 13 := by rw [ofL_size]; exact itoa_len13 (by omega) (by omega)
        clear hb
        generalize ofL (Lib.itoa (-s)) = d at *
        go_wp2
        go_ret2
        exact ⟨ret_si HF.out, HB.out⟩
    · have HS := Lib.hid (show timeSign s = ByteArray.empty from if_neg hs0)
      by_cases hn0 : 0 < n
      · have hS : timeS s n = s := by unfold timeS; rw [if_neg hs0]
        have hN : timeN s n = n := by unfold timeN; rw [if_neg (by omega)]
        have HF := Lib.hid (timeText_part H.out HS.out hS hN (by omega))
        clear hS hN h
        obtain ⟨N, rfl⟩ := Int.eq_ofNat_of_zero_le h3
        go_enter Tryz.func103, Tryz.ntmps103
        go_wp2_with fail
        refine (HC.out _).mono ?_
        rintro e w1 ⟨rfl, rfl⟩
        rw [H.out]
        go_wp2_with fail
        refine (Itoa_any _ _ (by unfold i64; omega) HT.out).mono ?_
        rintro e w2 ⟨rfl, hb⟩
        have HB := Lib.hid hb
        have hz : (ofL (Lib.itoa (s))).size ≤ 13 := by rw [ofL_size]; exact itoa_len13 (by omega) (by omega)
        clear hb
        generalize ofL (Lib.itoa (s)) = d at *
        have hNp : (((N : Int) : Int) == 0) = false := by rw [beq_eq_false_iff_ne]; omega
        have hN := trivial
        have hN0 : 0 < N := by omega
        have hN9 : N < 1000000000 := by omega
        go_wp2_with fail
        clear hN
        rw [Int.toNat_natCast] at HF
        have HF2 := Lib.hid (show timeText s N = ((⟨#[]⟩ : ByteArray) ++ d ++ ⟨#[46]⟩ ++ ofL (Lib.trimRightB (digs9 N 9) 48), 0) from HF.out)
        have hsg := sg_pos hz
        clear HF
        generalize (⟨#[]⟩ : ByteArray) ++ d ++ ⟨#[46]⟩ = t at *
        go_loopw [1, 7, 8] (fun n x u wr => ∃ k : Nat, k ≤ 9 ∧ n = .int .i64 ((N % 10 ^ (9 - k) : Nat) : Int) ∧ u = .int .i64 (unitN k : Int) ∧ x = .string (t ++ ofL (digs9 N k)) ∧ Hid (k = 0 ∨ N % 10 ^ (10 - k) ≠ 0) ∧ ∃ m, wr = w2.drewN m) (fun n x u wr => (intOf u).toNat)
        case atStart => exact ⟨0, by omega, by rw [Nat.mod_eq_of_lt (by simpa using hN9)], rfl, congrArg Value.string (app_zero t N).symm, Lib.hid (.inl rfl), 0, rfl⟩
        case round =>
          obtain ⟨k, hk, rfl, rfl, rfl, HK, m, rfl⟩ := hrel
          by_cases hz0 : N % 10 ^ (9 - k) = 0
          · have HTR := Lib.hid (trim9 hk hz0 HK.out)
            rw [HTR.out] at HF2
            rw [hz0]
            clear hz0
            go_wp2
            go_ret2
            exact ⟨ret_si HF2.out, below_drewN HB.out m⟩
          · have hk9 : k < 9 := by
              rcases Nat.lt_or_ge k 9 with h | h
              · exact h
              · exfalso; apply hz0; rw [show 9 - k = 0 by omega]; simp [Nat.mod_one]
            have HK2 := Lib.hid (show k + 1 = 0 ∨ N % 10 ^ (10 - (k + 1)) ≠ 0 from .inr (by rw [show 10 - (k + 1) = 9 - k by omega]; exact hz0))
            have e1 := unit_digit N k hk9
            have e2 := unit_rest N k hk9
            have e3 := unitN_at hk9
            have e4 := unitN_next hk9
            have hdl : N / 10 ^ (8 - k) % 10 < 10 := Nat.mod_lt _ (by decide)
            have HDG := Lib.hid (show ofL (digs9 N k) ++ ofL [UInt8.ofNat (48 + N / 10 ^ (8 - k) % 10)] = ofL (digs9 N (k + 1)) by rw [digs9_succ, ofL_append]; rfl)
            have hup := unitN_pos hk9
            have hlen : (ofL (digs9 N k)).size ≤ 9 := by rw [ofL_size, digs9_len]; exact hk
            have hql : N % 10 ^ (9 - k) < 1000000000 := Nat.lt_of_le_of_lt (Nat.mod_le _ _) hN9
            generalize N / 10 ^ (8 - k) % 10 = dg at *
            rw [← e3] at e1 e2
            generalize hq2 : N % 10 ^ (9 - (k + 1)) = q2 at *
            have HQ2 := Lib.hid hq2
            clear hq2
            generalize N % 10 ^ (9 - k) = q at *
            generalize hu2 : unitN (k + 1) = u2 at *
            have HU2 := Lib.hid hu2
            clear hu2
            generalize unitN k = u at *
            clear e3
            have d1 : ((q : Int) / (u : Int)) = (dg : Int) := by rw [← e1]; rfl
            have d2 : ((q : Int) % (u : Int)) = (q2 : Int) := by rw [← e2]; rfl
            have d3 : ((u : Int) / 10) = (u2 : Int) := by rw [← e4]; rfl
            have d4 : (u : Int) ≠ 0 := by omega
            have HSTR := Lib.hid (show t ++ ofL (digs9 N k) ++ (⟨#[48, 49, 50, 51, 52, 53, 54, 55, 56, 57]⟩ : ByteArray).extract dg (dg + 1) = t ++ ofL (digs9 N (k + 1)) by rw [← HDG.out, ByteArray.append_assoc]; congr 2; exact digit_ten dg hdl)
            have d6 : (q : Int).tdiv (u : Int) = (dg : Int) := by rw [← e1]; rfl
            have d7 : (q : Int).tmod (u : Int) = (q2 : Int) := by rw [← e2]; rfl
            have d8 : (u : Int).tdiv 10 = (u2 : Int) := by rw [← e4]; rfl
            clear e1 e2 e4
            generalize digs9 N k = pre at *
            go_wp2_with fail
            go_quiet (fail)
            go_wp2
            go_roundw
            case rel => exact ⟨k + 1, by omega, by rw [HQ2.out], by rw [HU2.out], congrArg Value.string HSTR.out, HK2, _, rfl⟩
            case measure => simp [intOf]; omega
      · have hS : timeS s n = s := by unfold timeS; rw [if_neg hs0]
        have hN : timeN s n = n := by unfold timeN; rw [if_neg (by omega)]
        obtain rfl : n = 0 := by omega
        have HF := Lib.hid (timeText_whole H.out HS.out hS hN)
        clear hS hN h
        go_enter Tryz.func103, Tryz.ntmps103
        go_wp2_with fail
        refine (HC.out _).mono ?_
        rintro e w1 ⟨rfl, rfl⟩
        rw [H.out]
        go_wp2_with fail
        refine (Itoa_any _ _ (by unfold i64; omega) HT.out).mono ?_
        rintro e w2 ⟨rfl, hb⟩
        have HB := Lib.hid hb
        have hz : (ofL (Lib.itoa (s))).size ≤ 13 := by rw [ofL_size]; exact itoa_len13 (by omega) (by omega)
        clear hb
        generalize ofL (Lib.itoa (s)) = d at *
        go_wp2
        go_ret2
        exact ⟨ret_si HF.out, HB.out⟩
  · have HF := Lib.hid (timeText_bad h)
    have hne : (timeFault s n != 0) = true := by rw [bne_iff_ne]; exact h
    generalize timeFault s n = q at *
    clear h hs hn
    go_enter Tryz.func103, Tryz.ntmps103
    go_wp2_with fail
    refine (HC.out _).mono ?_
    rintro e w1 ⟨rfl, rfl⟩
    go_wp2
    go_ret2
    exact ⟨ret_si HF.out, Below.refl _ _⟩
end Go.Proofs.YtaffgndickdbiaaGreatDoor
namespace Go.Creel
theorem get_eq_byt (s : ByteArray) (k : Nat) (h : k < s.size) : (s.get! k).toNat = byt s k := by
  have := get_at s k h
  rw [Nat.add_zero] at this
  rw [this, byt_get s k h]
theorem decode_cont {s : ByteArray} {pos j : Nat} (h1 : pos < j) (h2 : j < pos + (Utf8.decode s pos).2) : j < s.size ∧ 128 ≤ byt s j := by
  have key : ∀ k, (decide (pos + k < s.size) && (s.get! (pos + k)).toNat / 64 == 2) = true → pos + k < s.size ∧ 128 ≤ byt s (pos + k) := by
    intro k hk
    simp only [Bool.and_eq_true, decide_eq_true_eq, beq_iff_eq] at hk
    refine ⟨hk.1, ?_⟩
    rw [← get_eq_byt s _ hk.1]
    omega
  unfold Utf8.decode at h2
  simp only at h2
  split at h2
  · simp at h2; omega
  · split at h2
    · rename_i hc
      rw [Bool.and_eq_true] at hc
      split at h2
      · simp at h2
        obtain rfl : j = pos + 1 := by omega
        exact key 1 hc.2
      · simp at h2; omega
    · split at h2
      · rename_i hc
        simp only [Bool.and_eq_true] at hc
        split at h2
        · simp at h2
          rcases (show j = pos + 1 ∨ j = pos + 2 by omega) with rfl | rfl
          · exact key 1 (by simpa using hc.1.2)
          · exact key 2 (by simpa using hc.2)
        · simp at h2; omega
      · split at h2
        · rename_i hc
          simp only [Bool.and_eq_true] at hc
          split at h2
          · simp at h2
            rcases (show j = pos + 1 ∨ j = pos + 2 ∨ j = pos + 3 by omega) with rfl | rfl | rfl
            · exact key 1 (by simpa using hc.1.1.2)
            · exact key 2 (by simpa using hc.1.2)
            · exact key 3 (by simpa using hc.2)
          · simp at h2; omega
        · simp at h2; omega
theorem decode_pos (s : ByteArray) (pos : Nat) (h : pos < s.size) : 1 ≤ (Utf8.decode s pos).2 := by
  by_cases ha : (s[pos]'h).toNat < 128
  · rw [decode_ascii s pos h ha]
    exact Nat.le_refl _
  · exact (decode_high s pos h (by omega)).2
theorem decode_le_size (s : ByteArray) (pos : Nat) (h : pos < s.size) : pos + (Utf8.decode s pos).2 ≤ s.size := by
  have hp := decode_pos s pos h
  by_cases hq : (Utf8.decode s pos).2 = 1
  · omega
  · have := (decode_cont (s := s) (pos := pos) (j := pos + (Utf8.decode s pos).2 - 1) (by omega) (by omega)).1
    omega
def cutGood (s : ByteArray) (i : Nat) : Bool := decide (byt s i = 47 ∧ 0 < i ∧ i ≤ 155 ∧ i + 1 < s.size ∧ s.size ≤ i + 101)
def cutAt (s : ByteArray) : Nat → Option Nat
  | 0 => none
  | k + 1 => match cutAt s k with
    | some i => some i
    | none => if cutGood s k then some k else none
theorem cutAt_none_succ {s : ByteArray} {k : Nat} (h : cutAt s k = none) (hg : cutGood s k = false) : cutAt s (k + 1) = none := by simp [cutAt, h, hg]
theorem cutAt_none_to {s : ByteArray} {k : Nat} (h : cutAt s k = none) : ∀ m, k ≤ m → (∀ j, k ≤ j → j < m → cutGood s j = false) → cutAt s m = none := by
  intro m hm hg
  induction m with
  | zero => rfl
  | succ m ih =>
    by_cases e : k = m + 1
    · rw [← e]; exact h
    · exact cutAt_none_succ (ih (by omega) (fun j h1 h2 => hg j h1 (by omega))) (hg m (by omega) (by omega))
theorem cutAt_some {s : ByteArray} {k : Nat} (h : cutAt s k = none) (hg : cutGood s k = true) : ∀ m, k < m → cutAt s m = some k := by
  intro m hm
  induction m with
  | zero => omega
  | succ m ih =>
    by_cases e : k = m
    · subst e; simp [cutAt, h, hg]
    · simp [cutAt, ih (by omega)]
def cutRest (s : ByteArray) : ByteArray × ByteArray × Int :=
  if s.size ≤ 100 then (ByteArray.empty, s, 0)
  else match cutAt s s.size with
    | some i => (s.extract 0 i, s.extract (i + 1) s.size, 0)
    | none => (ByteArray.empty, ByteArray.empty, 1)
def cutTwo (s : ByteArray) : ByteArray × ByteArray × Int := if s.size = 0 ∨ hasB s 0 = true then (ByteArray.empty, ByteArray.empty, 3) else cutRest s
theorem cutGood_no {s : ByteArray} {i : Nat} (h : cutGood s i = false) : byt s i ≠ 47 ∨ i = 0 ∨ 155 < i ∨ s.size ≤ i + 1 ∨ i + 101 < s.size := by
  unfold cutGood at h
  rw [decide_eq_false_iff_not] at h
  omega
theorem cutGood_yes {s : ByteArray} {i : Nat} (h : cutGood s i = true) : byt s i = 47 ∧ 0 < i ∧ i ≤ 155 ∧ i + 1 < s.size ∧ s.size ≤ i + 101 := by
  unfold cutGood at h
  simpa using h
theorem cutGood_f {s : ByteArray} {i : Nat} (h : byt s i ≠ 47 ∨ i = 0 ∨ 155 < i ∨ s.size ≤ i + 1 ∨ i + 101 < s.size) : cutGood s i = false := by
  unfold cutGood
  rw [decide_eq_false_iff_not]; omega
end Go.Creel
namespace Go.Proofs.YtaffgndickdbiaaGreatDoor
open Go.Creel Go.RowKit
set_option maxRecDepth 100000 in
set_option maxHeartbeats 1000000 in
theorem Two_any (s : ByteArray) (w : World) (hs : s.size ≤ maxLen) :
    Calls Tryz.prog 90 #[.string s] w fun e w' => e = .returned (.tuple #[.string (cutTwo s).1, .string (cutTwo s).2.1, .int .i64 (cutTwo s).2.2]) ∧ Below w.heap.size w w' := by
  unfold maxLen at hs
  by_cases h0 : s.size = 0
  · have HF := Lib.hid (show cutTwo s = (ByteArray.empty, ByteArray.empty, 3) by unfold cutTwo; rw [if_pos (.inl h0)])
    have he := empty_t h0
    clear h0
    go_enter Tryz.func90, Tryz.ntmps90
    go_wp2
    go_ret3
    exact ⟨ret_ssi HF.out, Below.refl _ _⟩
  · have he := empty_f h0
    have hix := idx_has s 0
    cases hh : hasB s 0 with
    | true =>
      have HF := Lib.hid (show cutTwo s = (ByteArray.empty, ByteArray.empty, 3) by unfold cutTwo; rw [if_pos (.inr hh)])
      rw [hh] at hix
      clear h0 hh
      go_enter Tryz.func90, Tryz.ntmps90
      go_wp2_with (go_at_call 84; refine (IndexByte_any _ _ _).mono ?_; rintro e w' ⟨rfl, rfl⟩)
      go_ret3
      exact ⟨ret_ssi HF.out, Below.refl _ _⟩
    | false =>
      rw [hh] at hix
      have HC := Lib.hid (show cutTwo s = cutRest s by
        have hn : ¬ (s.size = 0 ∨ hasB s 0 = true) := by rw [hh]; simp [h0]
        unfold cutTwo
        rw [if_neg hn])
      have hpos : 0 < s.size := by omega
      clear h0 hh
      by_cases h1 : s.size ≤ 100
      · have HF := Lib.hid (show cutTwo s = (ByteArray.empty, s, 0) by rw [HC.out, cutRest, if_pos h1])
        go_enter Tryz.func90, Tryz.ntmps90
        go_wp2_with (go_at_call 84; refine (IndexByte_any _ _ _).mono ?_; rintro e w' ⟨rfl, rfl⟩)
        go_ret3
        exact ⟨ret_ssi HF.out, Below.refl _ _⟩
      · have HC2 := Lib.hid h1
        go_enter Tryz.func90, Tryz.ntmps90
        go_wp2_with (go_at_call 84; refine (IndexByte_any _ _ _).mono ?_; rintro e w' ⟨rfl, rfl⟩)
        go_loopw [5] (fun _ wr => ∃ pos : Nat, wr = w.iter s pos ∧ pos ≤ s.size ∧ Hid (cutAt s pos = none)) (fun _ wr => s.size - wr.iterPos w.heap.size)
        case atStart => exact ⟨0, rfl, by omega, rfl⟩
        case round =>
          obtain ⟨pos, rfl, hpz, HP⟩ := hrel
          by_cases hp : pos < s.size
          · have hnx : ∀ ty, (Instr.next (.pointer (some ⟨w.heap.size, 0, none⟩)) true ty).run Tryz.prog (w.iter s pos) = _ := fun ty => run_next_any w s pos ty hp
            have hwd := decode_pos s pos hp
            have hle := decode_le_size s pos hp
            have HB := Lib.hid (byt_get s pos hp)
            have hb' : s[pos].toNat < 256 := UInt8.toNat_lt _
            cases hg : cutGood s pos with
            | true =>
              obtain ⟨g1, g2, g3, g4, g5⟩ := cutGood_yes hg
              have HF := Lib.hid (show cutTwo s = (s.extract 0 pos, s.extract (pos + 1) s.size, 0) by rw [HC.out, cutRest, if_neg HC2.out, cutAt_some HP.out hg s.size hp])
              have hq : (((s[pos].toNat : Nat) : Int) == 47) = true := by rw [HB.out, g1]; rfl
              clear hg g1
              go_wp2
              go_quiet (fail)
              go_wp2
              go_ret3
              exact ⟨ret_ssi HF.out, ((Below.refl _ _).alloc (Nat.le_refl _) _).trans (below_draws _ _ _)⟩
            | false =>
              have HN := Lib.hid (show cutAt s (pos + (Utf8.decode s pos).2) = none by
                refine cutAt_none_to HP.out _ (by omega) (fun j h1 h2 => ?_)
                by_cases e : j = pos
                · rw [e]; exact hg
                · have := decode_cont (show pos < j by omega) h2
                  exact cutGood_f (.inl (by omega)))
              have hno := cutGood_no hg
              clear hg
              by_cases hq0 : byt s pos = 47
              · have hq : (((s[pos].toNat : Nat) : Int) == 47) = true := by rw [HB.out, hq0]; rfl
                have HNO := Lib.hid (hno.resolve_left (fun h => h hq0))
                clear hno hq0
                go_wp2
                all_goals first
                  | (exfalso; have := HNO.out; omega)
                  | skip
                all_goals go_roundw
                all_goals first
                  | (case rel => exact ⟨_, rfl, hle, HN⟩)
                  | (case measure => simp; omega)
              · have hq : (((s[pos].toNat : Nat) : Int) == 47) = false := by rw [HB.out, beq_eq_false_iff_ne]; omega
                clear hno hq0
                go_wp2
                go_roundw
                case rel => exact ⟨_, rfl, hle, HN⟩
                case measure => simp; omega
          · have hnx : ∀ ty, (Instr.next (.pointer (some ⟨w.heap.size, 0, none⟩)) true ty).run Tryz.prog (w.iter s pos) = _ := fun ty => run_next_end w s pos ty hp
            obtain rfl : pos = s.size := by omega
            have HF := Lib.hid (show cutTwo s = (ByteArray.empty, ByteArray.empty, 1) by rw [HC.out, cutRest, if_neg HC2.out, HP.out])
            go_wp2
            go_ret3
            exact ⟨ret_ssi HF.out, (Below.refl _ _).alloc (Nat.le_refl _) _⟩
set_option maxRecDepth 100000 in
set_option maxHeartbeats 1000000 in
theorem CutTwo_any (s : ByteArray) (w : World) (hs : s.size ≤ maxLen) :
    Calls Tryz.prog 100 #[.string s] w fun e w' => e = .returned (.tuple #[.string (cutTwo s).1, .string (cutTwo s).2.1, .int .i64 (cutTwo s).2.2]) ∧ Below w.heap.size w w' := by
  have hs' := hs
  unfold maxLen at hs
  by_cases h0 : s.size = 0
  · have HF := Lib.hid (show cutTwo s = (ByteArray.empty, ByteArray.empty, 3) by unfold cutTwo; rw [if_pos (.inl h0)])
    have he := empty_t h0
    clear h0
    go_enter Tryz.func100, Tryz.ntmps100
    go_wp2
    go_ret3
    exact ⟨ret_ssi HF.out, Below.refl _ _⟩
  · have he := empty_f h0
    cases hh : hasB s 0 with
    | true =>
      have HF := Lib.hid (show cutTwo s = (ByteArray.empty, ByteArray.empty, 3) by unfold cutTwo; rw [if_pos (.inr hh)])
      clear h0
      go_enter Tryz.func100, Tryz.ntmps100
      go_wp2_with (go_at_call 105; refine (has_any _ 0 0 rfl _ hs').mono ?_; rintro e w' ⟨rfl, rfl⟩)
      go_ret3
      exact ⟨ret_ssi HF.out, Below.refl _ _⟩
    | false =>
      have HC := Lib.hid (show cutTwo s = cutRest s by
        have hn : ¬ (s.size = 0 ∨ hasB s 0 = true) := by rw [hh]; simp [h0]
        unfold cutTwo
        rw [if_neg hn])
      have hpos : 0 < s.size := by omega
      clear h0
      by_cases h1 : s.size ≤ 100
      · have HF := Lib.hid (show cutTwo s = (ByteArray.empty, s, 0) by rw [HC.out, cutRest, if_pos h1])
        go_enter Tryz.func100, Tryz.ntmps100
        go_wp2_with (go_at_call 105; refine (has_any _ 0 0 rfl _ hs').mono ?_; rintro e w' ⟨rfl, rfl⟩)
        go_ret3
        exact ⟨ret_ssi HF.out, Below.refl _ _⟩
      · have HC2 := Lib.hid h1
        go_enter Tryz.func100, Tryz.ntmps100
        go_wp2_with (go_at_call 105; refine (has_any _ 0 0 rfl _ hs').mono ?_; rintro e w' ⟨rfl, rfl⟩)
        go_loop [5] (fun i => ∃ k : Nat, 1 ≤ k ∧ k ≤ s.size ∧ i = .int .i64 k ∧ Hid (cutAt s k = none)) (fun i => s.size - (intOf i).toNat)
        case atStart => exact ⟨1, by omega, by omega, rfl, cutAt_none_to (k := 0) rfl 1 (by omega) (fun j _ h2 => cutGood_f (by omega))⟩
        case round =>
          obtain ⟨k, hk1, hk, rfl, HP⟩ := hrel
          by_cases hp : k + 1 < s.size ∧ k ≤ 155
          · obtain ⟨hp1, hp2⟩ := hp
            have hks : k < s.size := by omega
            have HB := Lib.hid (byt_get s k hks)
            have hb' : s[k].toNat < 256 := UInt8.toNat_lt _
            cases hg : cutGood s k with
            | true =>
              obtain ⟨g1, g2, g3, g4, g5⟩ := cutGood_yes hg
              have HF := Lib.hid (show cutTwo s = (s.extract 0 k, s.extract (k + 1) s.size, 0) by rw [HC.out, cutRest, if_neg HC2.out, cutAt_some HP.out hg s.size hks])
              have hq : (((s[k].toNat : Nat) : Int) == 47) = true := by rw [HB.out, g1]; rfl
              clear hg g1
              go_wp2
              go_quiet (fail)
              go_wp2
              go_ret3
              exact ⟨ret_ssi HF.out, below_draws _ _ _⟩
            | false =>
              have HN := Lib.hid (cutAt_none_succ HP.out hg)
              have hno := cutGood_no hg
              clear hg
              by_cases hq0 : byt s k = 47
              · have hq : (((s[k].toNat : Nat) : Int) == 47) = true := by rw [HB.out, hq0]; rfl
                have hno' : k + 101 < s.size := by omega
                clear hno hq0
                go_wp2
                go_round
                case rel => exact ⟨k + 1, by omega, by omega, by go_num, HN⟩
                case measure => simp [intOf]; omega
              · have hq : (((s[k].toNat : Nat) : Int) == 47) = false := by rw [HB.out, beq_eq_false_iff_ne]; omega
                clear hno hq0
                go_wp2
                go_round
                case rel => exact ⟨k + 1, by omega, by omega, by go_num, HN⟩
                case measure => simp [intOf]; omega
          · have HF := Lib.hid (show cutTwo s = (ByteArray.empty, ByteArray.empty, 1) by
              rw [HC.out, cutRest, if_neg HC2.out, cutAt_none_to HP.out s.size hk (fun j h1 h2 => cutGood_f (by omega))])
            by_cases hp1 : k + 1 < s.size
            · have hp2 : 155 < k := by omega
              clear hp
              go_wp2
              go_ret3
              exact ⟨ret_ssi HF.out, Below.refl _ _⟩
            · clear hp
              go_wp2
              go_ret3
              exact ⟨ret_ssi HF.out, Below.refl _ _⟩
end Go.Proofs.YtaffgndickdbiaaGreatDoor
namespace Go.Creel
structure Ent where
  path : ByteArray
  kind : Int
  target : ByteArray
  mt : Meta
  da : Option Addr
  dcap : Nat
  data : List UInt8
def Ent.cells (e : Ent) : List Value := [.string e.path, .int .i64 e.kind, .string e.target, .int .i64 e.mt.mode, .int .i64 e.mt.uid, .int .i64 e.mt.gid, .string e.mt.user, .string e.mt.group, .int .i64 e.mt.second, .int .i64 e.mt.nano, .slice e.da e.data.length e.dcap]
structure Ent.Ok (N : Nat) (w : World) (e : Ent) : Prop where
  path : e.path.size ≤ N
  kind : i64 e.kind
  target : e.target.size ≤ N
  mt : e.mt.Ok N
  data : SliceC N 1 ByteC w [.slice e.da e.data.length e.dcap] e.data
def EntC (N : Nat) (w : World) (cs : List Value) (e : Ent) : Prop := cs = e.cells ∧ e.Ok N w
structure Nod where
  path : ByteArray
  kind : Int
  same : Int
  target : ByteArray
  mt : Meta
  da : Option Addr
  dcap : Nat
  data : List UInt8
def Nod.cells (e : Nod) : List Value := [.string e.path, .int .i64 e.kind, .int .i64 e.same, .string e.target, .int .i64 e.mt.mode, .int .i64 e.mt.uid, .int .i64 e.mt.gid, .string e.mt.user, .string e.mt.group, .int .i64 e.mt.second, .int .i64 e.mt.nano, .slice e.da e.data.length e.dcap]
structure Nod.Ok (N : Nat) (w : World) (e : Nod) : Prop where
  path : e.path.size ≤ N
  kind : i64 e.kind
  same : i64 e.same
  target : e.target.size ≤ N
  mt : e.mt.Ok N
  data : SliceC N 1 ByteC w [.slice e.da e.data.length e.dcap] e.data
end Go.Creel
namespace Go.Proofs.YtaffgndickdbiaaGreatDoor
open Go.Creel Go.ChangeShapes
section
variable {H : Type} {enc : TypeId × Value → H} {W : World} {S : DataW H → Prop} {N : Nat}
theorem opens_Entry (hS : Bd H S N) : Opens enc Tryz.prog W S 26 (EntC N) := by
  intro fuel cs x h hx
  have hu := Tryz.underlying26
  have hl := (opens_len hu h).trans (show Tryz.prog.cellsOf 26 = 11 by kernel_rfl)
  obtain ⟨a0, h0⟩ := opens_field hS hu h hx 0 0 1 rfl rfl (by kernel_rfl) (opens_Str hS)
  obtain ⟨a1, h1⟩ := opens_field hS hu h hx 1 1 1 rfl rfl (by kernel_rfl) opens_Int
  obtain ⟨a2, h2⟩ := opens_field hS hu h hx 2 2 1 rfl rfl (by kernel_rfl) (opens_Str hS)
  obtain ⟨a3, h3⟩ := opens_field hS hu h hx 3 3 7 rfl rfl (by kernel_rfl) (opens_Meta hS)
  obtain ⟨a4, h4⟩ := opens_field hS hu h hx 4 10 1 rfl rfl (by kernel_rfl) (opens_Bytes hS)
  obtain ⟨c0, c1, c2, c3, c4, c5, c6, c7, c8, c9, c10, rfl⟩ : ∃ c0 c1 c2 c3 c4 c5 c6 c7 c8 c9 c10, cs = [c0, c1, c2, c3, c4, c5, c6, c7, c8, c9, c10] := by
    match cs, hl with
    | [c0, c1, c2, c3, c4, c5, c6, c7, c8, c9, c10], _ => exact ⟨c0, c1, c2, c3, c4, c5, c6, c7, c8, c9, c10, rfl⟩
  simp only [StrC, IntC, MetaC, List.drop, List.take, Meta.cells, List.cons.injEq, and_true] at h0 h1 h2 h3
  have h4' := h4
  obtain ⟨da, dcap, hc, hr⟩ := h4
  have hc10 : c10 = .slice da a4.length dcap := by simpa using hc
  subst hc10
  obtain ⟨⟨rfl, rfl, rfl, rfl, rfl, rfl, rfl⟩, hm⟩ := h3
  exact ⟨⟨a0, a1, a2, a3, da, dcap, a4⟩, by rw [h0.1, h1.1, h2.1]; rfl, h0.2, h1.2, h2.2, hm, ⟨da, dcap, rfl, hr⟩⟩
end
end Go.Proofs.YtaffgndickdbiaaGreatDoor
