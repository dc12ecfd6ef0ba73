/-
  list.Day and its reference.
-/
import Derived.Test.YtaffgndickdbiaaDoorDayMath
import Derived.Deep.DeepCutAuto
import Derived.Deep.Cut
import Derived.Outline
namespace Go.Creel
theorem tdiv_neg {D : Int} (h : D < 0) : (D - 146096).tdiv 146097 = D / 146097 := by
  have hm := Int.tdiv_eq_ediv (a := D - 146096) (b := 146097)
  by_cases hd : 0 ≤ D - 146096 ∨ (146097 : Int) ∣ D - 146096
  · rw [if_pos hd] at hm
    obtain ⟨k, hk⟩ : (146097 : Int) ∣ D - 146096 := by rcases hd with h | h; exact absurd h (by omega); exact h
    omega
  · rw [if_neg hd] at hm
    have : (146097 : Int).sign = 1 := rfl
    have hn : ¬ (D - 146096) % 146097 = 0 := fun e => hd (.inr (Int.dvd_of_emod_eq_zero e))
    omega
end Go.Creel
namespace Go.Proofs.YtaffgndickdbiaaDoor
set_option linter.unusedVariables false
open Go.Creel Go.RowKit
set_option maxRecDepth 100000 in
set_option maxHeartbeats 1000000 in
theorem date_any (day : Int) (w : World) (h0 : -12725830 ≤ day) (h1 : day ≤ 12725830) :
    Calls Tryd.prog 88 #[.int .i64 day] w fun e w' => e = .returned (.tuple #[.int .i64 (dateD (day + 719468)).1, .int .i64 (dateD (day + 719468)).2.1, .int .i64 (dateD (day + 719468)).2.2]) ∧ w = w' := by
  have HT := Lib.hid (fun h => tdiv_neg (D := day + 719468) h)
  generalize hR : dateD (day + 719468) = R
  have HR := Lib.hid hR
  clear hR
  have hlo : 0 ≤ day + 719468 ∨ day + 719468 < 0 := by omega
  rcases hlo with hp | hp
  all_goals
    go_enter Tryd.func88, Tryd.ntmps88
    go_upto_region 5 with (fail)
    try rw [HT.out hp]
    clear HT
    have he3 : -100 ≤ (day + 719468) / 146097 := by omega
    have he4 : (day + 719468) / 146097 ≤ 100 := by omega
    have hD1 : -20000000 ≤ day + 719468 := by omega
    have hD2 : day + 719468 ≤ 20000000 := by omega
    generalize day + 719468 = D at *
    have he1 : 146097 * (D / 146097) ≤ D := by omega
    have he2 : D - 146097 * (D / 146097) ≤ 146096 := by omega
    generalize hE : D / 146097 = E at *
    have HE := Lib.hid hE
    clear hE
    go_upto_region 6 with (fail)
    have ho0 : 0 ≤ D - 146097 * E := by omega
    generalize hO : D - 146097 * E = o at *
    have HO := Lib.hid hO
    clear hO he1 hp
    go_upto_region 7 with (fail)
    obtain ⟨hy0, hy1, hd0, hd1⟩ := yoe_bd o ho0 he2
    generalize hY : (o - o/1460 + o/36524 - o/146096)/365 = Y at *
    have HY := Lib.hid hY
    clear hY
    go_upto_region 8 with (fail)
    generalize hF : o - (365*Y + Y/4 - Y/100) = doy at *
    have HF := Lib.hid hF
    clear hF
    go_upto_region 9 with (fail)
    have hm0 : 0 ≤ (5*doy+2)/153 := by omega
    have hm1 : (5*doy+2)/153 ≤ 12 := by omega
    generalize hM : (5*doy+2)/153 = mp at *
    have HM := Lib.hid hM
    clear hM
    go_upto_region 10 with (fail)
    go_wp2
  all_goals
    go_ret3
    refine ⟨?_, rfl⟩
    rw [← HR.out]
    unfold dateD
    simp only [HE.out, HO.out, HY.out, HF.out, HM.out]
    first | rw [if_pos (by assumption)] | rw [if_neg (by omega)]
    try rfl
set_option maxRecDepth 100000 in
set_option maxHeartbeats 1000000 in
theorem Day_any (s : Int) (w : World) (hs : i64 s) :
    Calls Tryd.prog 53 #[.int .i64 s] w fun e w' => e = .returned (.tuple #[.int .i64 (dayOf s).1, .int .i64 (dayOf s).2.1, .int .i64 (dayOf s).2.2.1, .int .i64 (dayOf s).2.2.2]) ∧ w = w' := by
  unfold i64 at hs
  by_cases h : s < -1099511627776 ∨ 1099511627776 < s
  · have HF := Lib.hid (show dayOf s = (0, 0, 0, 4) by unfold dayOf; rw [if_pos h])
    rcases h with h | h
    · go_enter Tryd.func53, Tryd.ntmps53
      go_wp2
      ((try simp only [Exit.inBlock, Exit.then]); refine bodyPost_ret (results_tmp4 rfl _ _ _) rfl ?_)
      exact ⟨ret_iiii HF.out, rfl⟩
    · go_enter Tryd.func53, Tryd.ntmps53
      go_wp2
      ((try simp only [Exit.inBlock, Exit.then]); refine bodyPost_ret (results_tmp4 rfl _ _ _) rfl ?_)
      exact ⟨ret_iiii HF.out, rfl⟩
  · have HF := Lib.hid (show dayOf s = ((dayP s).1, (dayP s).2.1, (dayP s).2.2, 0) by unfold dayOf; rw [if_neg h])
    have h0 : -1099511627776 ≤ s := by omega
    have h1 : s ≤ 1099511627776 := by omega
    have HD := Lib.hid (date_any (s / 86400) w (by omega) (by omega))
    have HP : Hid (∀ d, d = s / 86400 → dateD (d + 719468) = dayP s) := Lib.hid fun d hd => by rw [hd]; rfl
    generalize dayP s = R at *
    have hq := Int.tdiv_eq_ediv (a := s) (b := 86400)
    have hr := Int.tmod_eq_emod (a := s) (b := 86400)
    have h8 : ((86400 : Int).natAbs : Int) = 86400 := rfl
    have h9 : (86400 : Int).sign = 1 := rfl
    clear h hs
    have hc : 0 ≤ s ∨ (s < 0 ∧ s.tdiv 86400 = s / 86400 ∧ s.tmod 86400 = 0) ∨ (s < 0 ∧ s.tdiv 86400 = s / 86400 + 1 ∧ s.tmod 86400 < 0) := by
      by_cases hp : 0 ≤ s
      · exact .inl hp
      · right
        by_cases hd : (86400 : Int) ∣ s
        · rw [if_pos (.inr hd)] at hq hr
          have := Int.emod_eq_zero_of_dvd hd
          left; omega
        · rw [if_neg (fun h => h.elim hp hd)] at hq hr
          right; omega
    clear hq hr h8 h9
    have HB : Hid (s / 86400 ≤ 12725830) := Lib.hid (by omega)
    have HB0 : Hid (-12725830 ≤ s / 86400) := Lib.hid (by omega)
    rcases hc with hp | ⟨hp, hq, hr⟩ | ⟨hp, hq, hr⟩
    · have hm : 0 ≤ s % 86400 := by omega
      go_enter Tryd.func53, Tryd.ntmps53
      go_wp2_with fail
      refine HD.out.mono ?_
      rintro e w' ⟨rfl, rfl⟩
      rw [HP.out _ rfl]
      go_wp2
      ((try simp only [Exit.inBlock, Exit.then]); refine bodyPost_ret (results_tmp4 rfl _ _ _) rfl ?_)
      exact ⟨ret_iiii HF.out, rfl⟩
    · have hr1 : decide (s.tmod 86400 < 0) = false := by rw [hr]; rfl
      have HQ := Lib.hid hq
      clear hq hr
      go_enter Tryd.func53, Tryd.ntmps53
      go_wp2_with fail
      rw [HQ.out]
      refine HD.out.mono ?_
      rintro e w' ⟨rfl, rfl⟩
      rw [HP.out _ rfl]
      go_wp2
      ((try simp only [Exit.inBlock, Exit.then]); refine bodyPost_ret (results_tmp4 rfl _ _ _) rfl ?_)
      exact ⟨ret_iiii HF.out, rfl⟩
    · have HQ := Lib.hid hq
      have hb1 : -20000000 ≤ s.tdiv 86400 := by have := HB0.out; omega
      have hb2 : s.tdiv 86400 ≤ 20000000 := by have := HB.out; omega
      clear hq
      go_enter Tryd.func53, Tryd.ntmps53
      go_wp2_with fail
      rw [HQ.out, Int.add_sub_cancel]
      refine HD.out.mono ?_
      rintro e w' ⟨rfl, rfl⟩
      rw [HP.out _ rfl]
      go_wp2
      ((try simp only [Exit.inBlock, Exit.then]); refine bodyPost_ret (results_tmp4 rfl _ _ _) rfl ?_)
      exact ⟨ret_iiii HF.out, rfl⟩
theorem leap_b (y : Int) : decide (leapI y = 1) = (decide (y % 4 = 0) && (!decide (y % 100 = 0) || decide (y % 400 = 0))) := by
  unfold leapI
  by_cases h1 : y % 4 = 0 <;> by_cases h2 : y % 100 = 0 <;> by_cases h3 : y % 400 = 0 <;> simp [h1, h2, h3]
set_option maxRecDepth 100000 in
set_option maxHeartbeats 1000000 in
theorem leap_any (y : Int) (w : World) (h0 : 0 ≤ y) (h1 : y ≤ 10000) :
    Calls Tryd.prog 94 #[.int .i64 y] w fun e w' => e = .returned (.bool (decide (leapI y = 1))) ∧ w = w' := by
  have HL := Lib.hid (leap_b y)
  by_cases c1 : y % 4 = 0
  · by_cases c2 : y % 100 = 0
    · by_cases c3 : y % 400 = 0
      all_goals
        have d1 : (y % 4 == 0) = true := by simpa using c1
        have d2 : (y % 100 != 0) = false := by simpa using c2
        rw [decide_eq_true c1, decide_eq_true c2] at HL
        clear c1 c2
        go_enter Tryd.func94, Tryd.ntmps94
        go_wp2
        go_ret
        exact ⟨ret_b (by rw [HL.out]; simp [c3]), rfl⟩
    · have d1 : (y % 4 == 0) = true := by simpa using c1
      have d2 : (y % 100 != 0) = true := by simpa using c2
      rw [decide_eq_true c1, decide_eq_false c2] at HL
      clear c1 c2
      go_enter Tryd.func94, Tryd.ntmps94
      go_wp2
      go_ret
      exact ⟨ret_b (by rw [HL.out]; simp), rfl⟩
  · have d1 : (y % 4 == 0) = false := by simpa using c1
    rw [decide_eq_false c1] at HL
    clear c1
    go_enter Tryd.func94, Tryd.ntmps94
    go_wp2
    go_ret
    exact ⟨ret_b (by rw [HL.out]; simp), rfl⟩
end Go.Proofs.YtaffgndickdbiaaDoor
