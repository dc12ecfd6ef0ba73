/-
  The reference of list.Day.
-/
import Derived.Test.YtaffgndickdbiaaDoorDay
import Derived.Deep.CutBlock
import Derived.Deep.DeepCutAuto
import Derived.Outline
namespace Go.Creel
set_option linter.unusedVariables false
def mtab (k : Nat) : Int := ([31, 28, 31, 30, 31, 30, 31, 31, 30, 31, 30, 31] : List Int).getD k 0
theorem mtab_bd (k : Nat) : 0 ≤ mtab k ∧ mtab k ≤ 31 := by
  unfold mtab
  match k with
  | 0 | 1 | 2 | 3 | 4 | 5 | 6 | 7 | 8 | 9 | 10 | 11 => decide
  | k + 12 => simp
theorem mtab_len {k : Nat} (h : k < 12) (h1 : k ≠ 1) (L : Int) : mlen ((k : Int) + 1) L = mtab k := by
  unfold mtab mlen
  match k, h, h1 with
  | 0, _, _ | 2, _, _ | 3, _, _ | 4, _, _ | 5, _, _ | 6, _, _ | 7, _, _ | 8, _, _ | 9, _, _ | 10, _, _ | 11, _, _ => simp
theorem mlen_feb (L : Int) : mlen (((1 : Nat) : Int) + 1) L = 28 + L := by simp [mlen]
theorem mtab_cell (t : TypeId) (w : World) {k : Nat} (h : k < 12) : (w.alloc (.cells #[.int .i64 31, .int .i64 28, .int .i64 31, .int .i64 30, .int .i64 31, .int .i64 30, .int .i64 31, .int .i64 31, .int .i64 30, .int .i64 31, .int .i64 30, .int .i64 31] t)).cell? ⟨w.heap.size, k, none⟩ = some (.int .i64 (mtab k)) := by
  unfold mtab
  match k, h with
  | 0, _ | 1, _ | 2, _ | 3, _ | 4, _ | 5, _ | 6, _ | 7, _ | 8, _ | 9, _ | 10, _ | 11, _ => simp [World.cell?_alloc_new]
end Go.Creel
namespace Go.Proofs.YtaffgndickdbiaaDoor
set_option linter.unusedVariables false
open Go.Creel Go.RowKit
set_option maxRecDepth 100000 in
set_option maxHeartbeats 2000000 in
theorem DayOf_any (s : Int) (w : World) (hs : i64 s) :
    Calls Tryd.prog 61 #[.int .i64 s] w fun e w' => e = .returned (.tuple #[.int .i64 (dayOf s).1, .int .i64 (dayOf s).2.1, .int .i64 (dayOf s).2.2.1, .int .i64 (dayOf s).2.2.2]) ∧ Below w.heap.size w w' := by
  unfold i64 at hs
  by_cases h : s < -1099511627776 ∨ 1099511627776 < s
  · have HF := Lib.hid (show dayOf s = (0, 0, 0, 4) by unfold dayOf; rw [if_pos h])
    rcases h with h | h
    all_goals
      go_enter Tryd.func61, Tryd.ntmps61
      go_wp2
      ((try simp only [Exit.inBlock, Exit.then]); refine bodyPost_ret (results_tmp4 rfl _ _ _) rfl ?_)
      exact ⟨ret_iiii HF.out, Below.refl _ _⟩
  · have HF := Lib.hid (show ∀ p, dateD (s / 86400 + 719468) = p → dayOf s = (p.1, p.2.1, p.2.2, 0) by intro p hp; unfold dayOf; rw [if_neg h, ← hp]; rfl)
    generalize dayOf s = R at *
    have h0 : -1099511627776 ≤ s := by omega
    have h1 : s ≤ 1099511627776 := by omega
    have ht0 : -86400 ≤ s.tmod 86400 := by have := Int.tmod_eq_emod (a := s) (b := 86400); have h8 : ((86400 : Int).natAbs : Int) = 86400 := rfl; split at this <;> omega
    have ht1 : s.tmod 86400 ≤ 86400 := by have := Int.tmod_eq_emod (a := s) (b := 86400); have h8 : ((86400 : Int).natAbs : Int) = 86400 := rfl; split at this <;> omega
    clear h hs
    go_enter Tryd.func61, Tryd.ntmps61
    go_upto_region 4 with (fail)
    rw [tdiv_floor]
    have hd0 : -12725830 ≤ s / 86400 := by omega
    have hd1 : s / 86400 ≤ 12725830 := by omega
    clear ht0 ht1 h0 h1
    generalize s / 86400 = day at *
    have hq := Int.tdiv_eq_ediv (a := day) (b := 146097)
    have hr := Int.tmod_eq_emod (a := day) (b := 146097)
    have h8 : ((146097 : Int).natAbs : Int) = 146097 := rfl
    have h9 : (146097 : Int).sign = 1 := rfl
    have hc : 0 ≤ day ∨ (day < 0 ∧ day.tdiv 146097 = day / 146097 ∧ day.tmod 146097 = 0) ∨ (day < 0 ∧ day.tdiv 146097 = day / 146097 + 1 ∧ day.tmod 146097 < 0) := by
      by_cases hp : 0 ≤ day
      · exact .inl hp
      · right
        by_cases hd : (146097 : Int) ∣ day
        · rw [if_pos (.inr hd)] at hq hr
          have := Int.emod_eq_zero_of_dvd hd
          left; omega
        · rw [if_neg (fun h => h.elim hp hd)] at hq hr
          right; omega
    clear hq hr h8 h9
    obtain ⟨E, hE, he0, he1, ho0, ho1⟩ : ∃ E, E = day / 146097 ∧ -100 ≤ E ∧ E ≤ 100 ∧ 0 ≤ day - 146097 * E ∧ day - 146097 * E ≤ 146096 := ⟨_, rfl, by omega, by omega, by omega, by omega⟩
    have hb1 : -20000000 ≤ day.tdiv 146097 := by rcases hc with hp | ⟨_, h, _⟩ | ⟨_, h, _⟩ <;> first | (rw [Int.tdiv_eq_ediv_of_nonneg hp]; omega) | omega
    have hb2 : day.tdiv 146097 ≤ 20000000 := by rcases hc with hp | ⟨_, h, _⟩ | ⟨_, h, _⟩ <;> first | (rw [Int.tdiv_eq_ediv_of_nonneg hp]; omega) | omega
    have HC : Hid ((day.tmod 146097 < 0 ∧ day.tdiv 146097 = E + 1) ∨ (0 ≤ day.tmod 146097 ∧ day.tdiv 146097 = E)) := Lib.hid (by
      rcases hc with hp | ⟨_, h1, h2⟩ | ⟨_, h1, h2⟩
      · right; rw [Int.tdiv_eq_ediv_of_nonneg hp, Int.tmod_eq_emod_of_nonneg hp]; omega
      · right; omega
      · left; omega)
    clear hc hE
    go_upto_if 29 with (fail)
    go_cut [7] (fun s7 wx => s7 = .int .i64 E ∧ w = wx)
    case first =>
      rcases HC.out with ⟨h1, h2⟩ | ⟨h1, h2⟩
      · have H2 := Lib.hid h2
        clear h2
        go_wp2_with fail
        go_meet
        exact ⟨by rw [H2.out, Int.add_sub_cancel], rfl⟩
      · have H2 := Lib.hid h2
        clear h2
        go_wp2_with fail
        go_meet
        exact ⟨by rw [H2.out], rfl⟩
    case rest =>
      obtain ⟨rfl, rfl⟩ := hcut
      have HFD : Hid (∀ y r m q : Int, day - 146097*E + 719468 = jan y + r → r = mcum m (leapI y) + q → 1 ≤ m → m ≤ 12 → 0 ≤ q → q < mlen m (leapI y) → R = (y + 400*E, m, q + 1, 0)) := Lib.hid fun y r m q a b c d e f => by
        have := HF.out _ (day_ends day E y r m q a b c d e f)
        exact this
      clear HC hb1 hb2 hd0 hd1 HF
      go_upto_region 8 with (fail)
      generalize day - 146097 * E = o at *
      go_wp2_with fail
      go_loop [6, 8, 9] (fun d y _ => ∃ yy r : Int, y = .int .i64 yy ∧ d = .int .i64 r ∧ 1970 ≤ yy ∧ 0 ≤ r ∧ r ≤ 146096 ∧ Hid (o + 719468 = jan yy + r)) (fun d _ _ => (intOf d).toNat)
      case atStart => exact ⟨1970, o, rfl, rfl, by omega, ho0, ho1, Lib.hid (by rw [show jan 1970 = 719468 from by decide]; omega)⟩
      case round =>
        obtain ⟨yy, r, rfl, rfl, hy0, hr0, hr1, HJ⟩ := hrel
        have hy1 := jan_le HJ.out hr0 ho1 hy0
        by_cases hlt : r < 365 + leapI yy
        · have HMAX : Hid (r < mcum 13 (leapI yy)) := Lib.hid (by rw [mcum_end]; exact hlt)
          have hr366 : r ≤ 366 := by rcases leapI_bd yy with h | h <;> omega
          rcases leapI_bd yy with hl | hl
          all_goals
            first | (have hL : decide (leapI yy = 1) = false := by rw [hl]; rfl) | (have hL : decide (leapI yy = 1) = true := by rw [hl]; rfl)
            rw [hl] at hlt
            have HLp := Lib.hid hl
            have HL := Lib.hid hL
            clear hl hL
            have hlt2 := hlt
            clear hlt
            simp only [Int.add_zero, Int.reduceAdd] at hlt2
            go_wp2_with (go_at_call 94; refine (leap_any _ _ (by omega) (by omega)).mono ?_; rintro e w' ⟨rfl, rfl⟩; rw [HL.out])
            clear hlt2
            go_loopw [6, 10, 11] (fun d m _ wr => ∃ (k : Nat) (q : Int), m = .int .i64 ((k : Int) + 1) ∧ d = .int .i64 q ∧ k ≤ 11 ∧ 0 ≤ q ∧ q ≤ 366 ∧ Hid (r = mcum ((k : Int) + 1) (leapI yy) + q) ∧ Hid (Below w.heap.size w wr)) (fun _ m _ _ => (13 - intOf m).toNat)
            case atStart => exact ⟨0, r, rfl, rfl, by omega, hr0, hr366, Lib.hid (by simp [mcum]), Lib.hid (Below.refl _ _)⟩
            case round =>
              obtain ⟨k, q, rfl, rfl, hm2, hq0, hq1, HQ, HB⟩ := hrel
              have hcell := mtab_cell 3 wr (show k < 12 by omega)
              have htb := mtab_bd k
              have hi0 : 0 ≤ (k : Int) + 1 - 1 := by omega
              by_cases hx : q < mlen ((k : Int) + 1) (leapI yy)
              · have HR := Lib.hid (HFD.out yy r ((k : Int) + 1) q HJ.out HQ.out (by omega) (by omega) hq0 hx)
                by_cases hk1 : k = 1
                · subst hk1
                  rw [HLp.out, mlen_feb] at hx
                  rw [show mtab 1 = 28 from rfl] at hcell
                  simp only [Int.reduceAdd, Int.add_zero] at hx
                  clear htb
                  go_wp2_with (go_at_call 94; refine (leap_any _ _ (by omega) (by omega)).mono ?_; rintro e w' ⟨rfl, rfl⟩; rw [HL.out])
                  ((try simp only [Exit.inBlock, Exit.then]); refine bodyPost_ret (results_tmp4 rfl _ _ _) rfl ?_)
                  exact ⟨ret_iiii HR.out, HB.out.trans (((Below.refl _ _).alloc (Nat.le_refl _) _).mono HB.out.size)⟩
                · rw [mtab_len (by omega) hk1] at hx
                  have hb2 : (((k : Int) + 1) == 2) = false := by rw [beq_eq_false_iff_ne]; omega
                  go_wp2_with (go_at_call 94; refine (leap_any _ _ (by omega) (by omega)).mono ?_; rintro e w' ⟨rfl, rfl⟩; rw [HL.out])
                  ((try simp only [Exit.inBlock, Exit.then]); refine bodyPost_ret (results_tmp4 rfl _ _ _) rfl ?_)
                  exact ⟨ret_iiii HR.out, HB.out.trans (((Below.refl _ _).alloc (Nat.le_refl _) _).mono HB.out.size)⟩
              · have HS := Lib.hid (mcum_succ ((k : Int) + 1) (leapI yy) (by omega) (by omega))
                have hm3 : k ≤ 10 := by
                  by_cases h12 : k = 11
                  · exfalso
                    subst h12
                    have h1 := HS.out
                    have h2 := HMAX.out
                    have h3 := HQ.out
                    rw [show ((11 : Nat) : Int) + 1 + 1 = 13 from rfl] at h1
                    omega
                  · omega
                by_cases hk1 : k = 1
                · subst hk1
                  have HX := Lib.hid hx
                  rw [HLp.out, mlen_feb] at hx
                  rw [show mtab 1 = 28 from rfl] at hcell
                  simp only [Int.reduceAdd, Int.add_zero] at hx
                  clear htb
                  go_wp2_with (go_at_call 94; refine (leap_any _ _ (by omega) (by omega)).mono ?_; rintro e w' ⟨rfl, rfl⟩; rw [HL.out])
                  go_roundw
                  case rel =>
                    refine ⟨2, _, rfl, rfl, by omega, by omega, by omega, Lib.hid ?_, Lib.hid (HB.out.trans (((Below.refl _ _).alloc (Nat.le_refl _) _).mono HB.out.size))⟩
                    have h1 := HS.out
                    have h2 := HQ.out
                    have h3 := HLp.out
                    rw [mlen_feb] at h1
                    rw [show (((2 : Nat) : Int) + 1) = ((1 : Nat) : Int) + 1 + 1 from rfl]
                    omega
                  case measure => simp [intOf]
                · have HX := Lib.hid (mtab_len (show k < 12 by omega) hk1 (leapI yy))
                  rw [mtab_len (by omega) hk1] at hx
                  have hb2 : (((k : Int) + 1) == 2) = false := by rw [beq_eq_false_iff_ne]; omega
                  go_wp2_with (go_at_call 94; refine (leap_any _ _ (by omega) (by omega)).mono ?_; rintro e w' ⟨rfl, rfl⟩; rw [HL.out])
                  go_roundw
                  case rel =>
                    refine ⟨k + 1, _, by go_num, rfl, by omega, by omega, by omega, Lib.hid ?_, Lib.hid (HB.out.trans (((Below.refl _ _).alloc (Nat.le_refl _) _).mono HB.out.size))⟩
                    have h1 := HS.out
                    have h2 := HQ.out
                    rw [HX.out] at h1
                    rw [show (((k + 1 : Nat) : Int) + 1) = (k : Int) + 1 + 1 by omega]
                    omega
                  case measure => simp [intOf]; omega
        · rcases leapI_bd yy with hl | hl
          all_goals
            first | (have hL : decide (leapI yy = 1) = false := by rw [hl]; rfl) | (have hL : decide (leapI yy = 1) = true := by rw [hl]; rfl)
            rw [hl] at hlt
            simp only [Int.add_zero, Int.reduceAdd] at hlt
            have HLp := Lib.hid hl
            have HL := Lib.hid hL
            clear hl hL
            go_wp2_with (go_at_call 94; refine (leap_any _ _ (by omega) (by omega)).mono ?_; rintro e w' ⟨rfl, rfl⟩; rw [HL.out])
            go_round
            case rel => exact ⟨yy + 1, _, rfl, rfl, by omega, by omega, by omega, Lib.hid (by rw [jan_succ, HLp.out]; have := HJ.out; omega)⟩
            case measure => simp [intOf]; omega
end Go.Proofs.YtaffgndickdbiaaDoor
