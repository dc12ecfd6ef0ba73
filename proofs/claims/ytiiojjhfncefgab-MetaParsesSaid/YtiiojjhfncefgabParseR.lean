/-
  creelref.ModeOf.
-/
import Derived.Test.YtiiojjhfncefgabParseL
namespace Go.Creel
set_option linter.unusedVariables false
set_option linter.unusedSimpArgs false
open Go.RowKit
def sumD (s : ByteArray) : Nat → Nat
  | 0 => 0
  | d + 1 => sumD s d + sumR (2 - d) (three s (2 - d)) 16
theorem modeOf_met {s : ByteArray} (hs : s.size = 9) (h : ∀ j, j < 3 → metR (2 - j) (three s (2 - j)) 16 = true) : modeOf s = (((sumD s 3 : Nat) : Int), 0) := by
  have h2 := h 0 (by omega)
  have h1 := h 1 (by omega)
  have h0 := h 2 (by omega)
  rw [modeOf_ref hs, if_pos h2, if_pos h1, if_pos h0]
  simp [sumD]
theorem modeOf_unmet {s : ByteArray} (hs : s.size = 9) {j : Nat} (hj : j < 3) (h : metR (2 - j) (three s (2 - j)) 16 = false) : modeOf s = (0, 3) := by
  rw [modeOf_ref hs]
  match j, hj with
  | 0, _ => rw [if_neg (by simp at h; simp [h])]
  | 1, _ =>
    by_cases h2 : metR 2 (three s 2) 16 = true
    · rw [if_pos h2, if_neg (by simp at h; simp [h])]
    · rw [if_neg h2]
  | 2, _ =>
    by_cases h2 : metR 2 (three s 2) 16 = true
    · by_cases h1 : metR 1 (three s 1) 16 = true
      · rw [if_pos h2, if_pos h1, if_neg (by simp at h; simp [h])]
      · rw [if_pos h2, if_neg h1]
    · rw [if_neg h2]
theorem valR_le {k x : Nat} (hk : k < 3) (hx : x < 16) : valR k x ≤ 4095 := of_decide_eq_true (of_range (of_range valR_all hk) hx)
theorem sumR_le {k : Nat} (hk : k < 3) (t : List UInt8) : ∀ x, x ≤ 16 → sumR k t x ≤ x * 4095
  | 0, _ => by simp [sumR]
  | x + 1, h => by
    have h1 := sumR_le hk t x (by omega)
    have h2 := valR_le hk (show x < 16 by omega)
    have e : sumR k t (x + 1) = sumR k t x + (if triR k x = t then valR k x else 0) := rfl
    rw [e, Nat.succ_mul]
    refine Nat.add_le_add h1 ?_
    split
    · exact h2
    · exact Nat.zero_le _
theorem sumD_le (s : ByteArray) : ∀ d, d ≤ 3 → sumD s d ≤ d * 65520
  | 0, _ => by simp [sumD]
  | d + 1, h => by
    have h1 := sumD_le s d (by omega)
    have h2 := sumR_le (k := 2 - d) (by omega) (three s (2 - d)) 16 (Nat.le_refl _)
    have e : sumD s (d + 1) = sumD s d + sumR (2 - d) (three s (2 - d)) 16 := rfl
    rw [e]
    generalize sumD s d = A at *
    generalize sumR (2 - d) (three s (2 - d)) 16 = V at *
    clear e
    omega
theorem ofL_self (s : ByteArray) : ofL s.data.toList = s := ofL_of s
theorem cut_three (s : ByteArray) (k : Nat) (hk : k < 3) : s.extract (6 - 3 * k) (9 - 3 * k) = ofL (three s k) := by
  have e := ofL_extract s.data.toList (6 - 3 * k) (9 - 3 * k)
  rw [ofL_self] at e
  rw [e]
  unfold three
  congr 2
  omega
theorem ofL_eq {a b : List UInt8} (h : ofL a = ofL b) : a = b := by
  have := congrArg (fun s => s.data.toList) h
  simpa [ofL_data] using this
theorem cut_tri (k x : Nat) (hk : k < 3) : (ofL (modeL (valR k x))).extract (6 - 3 * k) (9 - 3 * k) = ofL (triR k x) := by
  rw [ofL_extract]
  unfold triR
  congr 2
  omega
end Go.Creel
namespace Go.Proofs.Ytiiojjhfncefgab
set_option linter.unusedVariables false
set_option linter.unusedSimpArgs false
open Go.Creel Go.RowKit
set_option maxRecDepth 100000 in
set_option maxHeartbeats 4000000 in
theorem ModeOf_in (s : ByteArray) (w : World) (hs : s.size = 9) :
    Calls Try.prog 6 #[.string s] w fun e w' => e = .returned (.tuple #[.int .i64 (modeOf s).1, .int .i64 (modeOf s).2]) ∧ Below w.heap.size w w' := by
  have HS := Lib.hid hs
  go_enter Try.func6, Try.ntmps6
  go_wp2
  go_loopw [4, 5, 6, 7, 8, 9, 10, 11] (fun m i _ _ _ _ _ _ wr => ∃ (d : Nat) (j : Int), d ≤ 3 ∧ j + d = 2 ∧ i = .int .i64 j ∧ m = .int .i64 ((sumD s d : Nat) : Int) ∧ Hid (∀ j, j < d → metR (2 - j) (three s (2 - j)) 16 = true) ∧ Hid (Below w.heap.size w wr)) (fun _ i _ _ _ _ _ _ _ => (intOf i + 1).toNat)
  case atStart => exact ⟨0, 2, by omega, by omega, rfl, rfl, Lib.hid (fun j hj => absurd hj (by omega)), Lib.hid (Below.refl _ _)⟩
  case round =>
    obtain ⟨d, j, hd, hj, rfl, rfl, HMT, HB⟩ := hrel
    by_cases hlt : d < 3
    · have hsd : sumD s d ≤ 196560 := Nat.le_trans (sumD_le s d hd) (by omega)
      have HUN := Lib.hid (fun h => modeOf_unmet HS.out hlt h)
      rcases (show d = 0 ∨ d = 1 ∨ d = 2 by omega) with rfl | rfl | rfl
      · obtain rfl : j = 2 := by omega
        have HST := Lib.hid (show sumD s 1 = sumD s 0 + sumR 2 (three s 2) 16 from rfl)
        have HC3 := Lib.hid (cut_three s 2 (by omega))
        generalize sumD s 0 = M at *
        have HPW := Lib.hid (fun w : World => show Calls Try.prog 10 #[.int .i64 2] w (fun e w' => e = .returned (.int .i64 64) ∧ w = w') from power_any 2 w (by omega))
        go_wp2
        obtain ⟨w0, rfl⟩ : ∃ x, x = wr := ⟨wr, rfl⟩
        go_loopw [4, 7, 8, 9, 10, 11] (fun m t i _ _ _ wr => ∃ x : Nat, x ≤ 16 ∧ i = .int .i64 x ∧ m = .int .i64 ((M + sumR 2 (three s 2) x : Nat) : Int) ∧ t = .bool (metR 2 (three s 2) x) ∧ Hid (Below w.heap.size w wr)) (fun _ _ i _ _ _ _ => 16 - (intOf i).toNat)
        case atStart => exact ⟨0, by omega, rfl, by simp [sumR], rfl, HB⟩
        case round =>
          obtain ⟨x, hx, rfl, rfl, rfl, HBI⟩ := hrel
          have hsr := sumR_le (k := 2) (by omega) (three s 2) x hx
          by_cases hxl : x < 16
          · have HVL := Lib.hid (valR_le (k := 2) (by omega) hxl)
            have HSX := Lib.hid (show sumR 2 (three s 2) (x + 1) = sumR 2 (three s 2) x + (if triR 2 x = three s 2 then valR 2 x else 0) from rfl)
            have HMX := Lib.hid (show metR 2 (three s 2) (x + 1) = (metR 2 (three s 2) x || decide (triR 2 x = three s 2)) from rfl)
            have HVX := Lib.hid (show ((valR 2 x : Nat) : Int) = (x : Int) % 8 * 64 + (x : Int) / 8 * 512 * 4 by unfold valR; omega)
            have HCT := Lib.hid (cut_tri 2 x (by omega))
            have HML := Lib.hid (modeL_len (valR 2 x))
            generalize sumR 2 (three s 2) x = V at *
            generalize metR 2 (three s 2) x = T at *
            go_wp2
            go_quiet ((first | (go_at_call 10; exact quiet_same (HPW.out _))))
            rw [← HVX.out]
            go_wp2_with fail
            refine (RefMode_in (valR 2 x) _ (HVL.out)).mono ?_
            rintro e w1 ⟨rfl, hb⟩
            have HB1 := Lib.hid (HBI.out.trans ((below_draws _ _ _).trans (hb.mono (Nat.le_refl _)) |>.mono HBI.out.size))
            have hz1 : (ofL (modeL (valR 2 x))).size = 9 := by rw [ofL_size]; exact HML.out
            have hz2 : (ofL (modeL (valR 2 x))).size ≤ 9 := by omega
            clear hb
            have hvl := HVL.out
            by_cases ht : triR 2 x = three s 2
            · have hq : (((ofL (modeL (valR 2 x))).extract 0 3).toList == (s.extract 0 3).toList) = true := seq_t (by have e1 := HCT.out; have e2 := HC3.out; simp only [Nat.reduceMul, Nat.reduceSub] at e1 e2; rw [e1, e2, ht])
              rw [if_pos ht] at HSX
              rw [decide_eq_true ht] at HMX
              clear ht
              generalize valR 2 x = N at *
              go_wp2
              go_roundw
              case rel => exact ⟨x + 1, by omega, by go_num, by rw [HSX.out]; congr 1; omega, by rw [HMX.out]; simp, HB1⟩
              case measure => simp [intOf]; omega
            · have hq : (((ofL (modeL (valR 2 x))).extract 0 3).toList == (s.extract 0 3).toList) = false := seq_f (by have e1 := HCT.out; have e2 := HC3.out; simp only [Nat.reduceMul, Nat.reduceSub] at e1 e2; rw [e1, e2]; exact fun e => ht (ofL_eq e))
              rw [if_neg ht] at HSX
              rw [decide_eq_false ht] at HMX
              clear ht
              generalize valR 2 x = N at *
              go_wp2
              go_roundw
              case rel => exact ⟨x + 1, by omega, by go_num, by rw [HSX.out]; rfl, by rw [HMX.out]; simp, HB1⟩
              case measure => simp [intOf]; omega
          · obtain rfl : x = 16 := by omega
            by_cases hmt : metR 2 (three s 2) 16 = true
            · have HST2 := Lib.hid (HST.out)
              have hmt2 := hmt
              rw [hmt]
              go_wp2
              go_roundw
              case rel => exact ⟨1, 2 - 1, by omega, by omega, by go_num, by rw [HST.out], Lib.hid (fun j hj => by
                by_cases e : j = 0
                · subst e; exact hmt
                · exact HMT.out j (by omega)), HBI⟩
              case measure => simp [intOf]
            · have hmf : metR 2 (three s 2) 16 = false := by simpa using hmt
              have HF := Lib.hid (HUN.out hmf)
              rw [hmf]
              clear hmt hmf
              go_wp2
              go_ret2
              exact ⟨ret_ii HF.out, HBI.out⟩
      · obtain rfl : j = 1 := by omega
        have HST := Lib.hid (show sumD s 2 = sumD s 1 + sumR 1 (three s 1) 16 from rfl)
        have HC3 := Lib.hid (cut_three s 1 (by omega))
        generalize sumD s 1 = M at *
        have HPW := Lib.hid (fun w : World => show Calls Try.prog 10 #[.int .i64 1] w (fun e w' => e = .returned (.int .i64 8) ∧ w = w') from power_any 1 w (by omega))
        go_wp2
        obtain ⟨w0, rfl⟩ : ∃ x, x = wr := ⟨wr, rfl⟩
        go_loopw [4, 7, 8, 9, 10, 11] (fun m t i _ _ _ wr => ∃ x : Nat, x ≤ 16 ∧ i = .int .i64 x ∧ m = .int .i64 ((M + sumR 1 (three s 1) x : Nat) : Int) ∧ t = .bool (metR 1 (three s 1) x) ∧ Hid (Below w.heap.size w wr)) (fun _ _ i _ _ _ _ => 16 - (intOf i).toNat)
        case atStart => exact ⟨0, by omega, rfl, by simp [sumR], rfl, HB⟩
        case round =>
          obtain ⟨x, hx, rfl, rfl, rfl, HBI⟩ := hrel
          have hsr := sumR_le (k := 1) (by omega) (three s 1) x hx
          by_cases hxl : x < 16
          · have HVL := Lib.hid (valR_le (k := 1) (by omega) hxl)
            have HSX := Lib.hid (show sumR 1 (three s 1) (x + 1) = sumR 1 (three s 1) x + (if triR 1 x = three s 1 then valR 1 x else 0) from rfl)
            have HMX := Lib.hid (show metR 1 (three s 1) (x + 1) = (metR 1 (three s 1) x || decide (triR 1 x = three s 1)) from rfl)
            have HVX := Lib.hid (show ((valR 1 x : Nat) : Int) = (x : Int) % 8 * 8 + (x : Int) / 8 * 512 * 2 by unfold valR; omega)
            have HCT := Lib.hid (cut_tri 1 x (by omega))
            have HML := Lib.hid (modeL_len (valR 1 x))
            generalize sumR 1 (three s 1) x = V at *
            generalize metR 1 (three s 1) x = T at *
            go_wp2
            go_quiet ((first | (go_at_call 10; exact quiet_same (HPW.out _))))
            rw [← HVX.out]
            go_wp2_with fail
            refine (RefMode_in (valR 1 x) _ (HVL.out)).mono ?_
            rintro e w1 ⟨rfl, hb⟩
            have HB1 := Lib.hid (HBI.out.trans ((below_draws _ _ _).trans (hb.mono (Nat.le_refl _)) |>.mono HBI.out.size))
            have hz1 : (ofL (modeL (valR 1 x))).size = 9 := by rw [ofL_size]; exact HML.out
            have hz2 : (ofL (modeL (valR 1 x))).size ≤ 9 := by omega
            clear hb
            have hvl := HVL.out
            by_cases ht : triR 1 x = three s 1
            · have hq : (((ofL (modeL (valR 1 x))).extract 3 6).toList == (s.extract 3 6).toList) = true := seq_t (by have e1 := HCT.out; have e2 := HC3.out; simp only [Nat.reduceMul, Nat.reduceSub] at e1 e2; rw [e1, e2, ht])
              rw [if_pos ht] at HSX
              rw [decide_eq_true ht] at HMX
              clear ht
              generalize valR 1 x = N at *
              go_wp2
              go_roundw
              case rel => exact ⟨x + 1, by omega, by go_num, by rw [HSX.out]; congr 1; omega, by rw [HMX.out]; simp, HB1⟩
              case measure => simp [intOf]; omega
            · have hq : (((ofL (modeL (valR 1 x))).extract 3 6).toList == (s.extract 3 6).toList) = false := seq_f (by have e1 := HCT.out; have e2 := HC3.out; simp only [Nat.reduceMul, Nat.reduceSub] at e1 e2; rw [e1, e2]; exact fun e => ht (ofL_eq e))
              rw [if_neg ht] at HSX
              rw [decide_eq_false ht] at HMX
              clear ht
              generalize valR 1 x = N at *
              go_wp2
              go_roundw
              case rel => exact ⟨x + 1, by omega, by go_num, by rw [HSX.out]; rfl, by rw [HMX.out]; simp, HB1⟩
              case measure => simp [intOf]; omega
          · obtain rfl : x = 16 := by omega
            by_cases hmt : metR 1 (three s 1) 16 = true
            · have HST2 := Lib.hid (HST.out)
              have hmt2 := hmt
              rw [hmt]
              go_wp2
              go_roundw
              case rel => exact ⟨2, 1 - 1, by omega, by omega, by go_num, by rw [HST.out], Lib.hid (fun j hj => by
                by_cases e : j = 1
                · subst e; exact hmt
                · exact HMT.out j (by omega)), HBI⟩
              case measure => simp [intOf]
            · have hmf : metR 1 (three s 1) 16 = false := by simpa using hmt
              have HF := Lib.hid (HUN.out hmf)
              rw [hmf]
              clear hmt hmf
              go_wp2
              go_ret2
              exact ⟨ret_ii HF.out, HBI.out⟩
      · obtain rfl : j = 0 := by omega
        have HST := Lib.hid (show sumD s 3 = sumD s 2 + sumR 0 (three s 0) 16 from rfl)
        have HC3 := Lib.hid (cut_three s 0 (by omega))
        generalize sumD s 2 = M at *
        have HPW := Lib.hid (fun w : World => show Calls Try.prog 10 #[.int .i64 0] w (fun e w' => e = .returned (.int .i64 1) ∧ w = w') from power_any 0 w (by omega))
        go_wp2
        obtain ⟨w0, rfl⟩ : ∃ x, x = wr := ⟨wr, rfl⟩
        go_loopw [4, 7, 8, 9, 10, 11] (fun m t i _ _ _ wr => ∃ x : Nat, x ≤ 16 ∧ i = .int .i64 x ∧ m = .int .i64 ((M + sumR 0 (three s 0) x : Nat) : Int) ∧ t = .bool (metR 0 (three s 0) x) ∧ Hid (Below w.heap.size w wr)) (fun _ _ i _ _ _ _ => 16 - (intOf i).toNat)
        case atStart => exact ⟨0, by omega, rfl, by simp [sumR], rfl, HB⟩
        case round =>
          obtain ⟨x, hx, rfl, rfl, rfl, HBI⟩ := hrel
          have hsr := sumR_le (k := 0) (by omega) (three s 0) x hx
          by_cases hxl : x < 16
          · have HVL := Lib.hid (valR_le (k := 0) (by omega) hxl)
            have HSX := Lib.hid (show sumR 0 (three s 0) (x + 1) = sumR 0 (three s 0) x + (if triR 0 x = three s 0 then valR 0 x else 0) from rfl)
            have HMX := Lib.hid (show metR 0 (three s 0) (x + 1) = (metR 0 (three s 0) x || decide (triR 0 x = three s 0)) from rfl)
            have HVX := Lib.hid (show ((valR 0 x : Nat) : Int) = (x : Int) % 8 + (x : Int) / 8 * 512 by unfold valR; omega)
            have HCT := Lib.hid (cut_tri 0 x (by omega))
            have HML := Lib.hid (modeL_len (valR 0 x))
            generalize sumR 0 (three s 0) x = V at *
            generalize metR 0 (three s 0) x = T at *
            go_wp2
            go_quiet ((first | (go_at_call 10; exact quiet_same (HPW.out _))))
            rw [← HVX.out]
            go_wp2_with fail
            refine (RefMode_in (valR 0 x) _ (HVL.out)).mono ?_
            rintro e w1 ⟨rfl, hb⟩
            have HB1 := Lib.hid (HBI.out.trans ((below_draws _ _ _).trans (hb.mono (Nat.le_refl _)) |>.mono HBI.out.size))
            have hz1 : (ofL (modeL (valR 0 x))).size = 9 := by rw [ofL_size]; exact HML.out
            have hz2 : (ofL (modeL (valR 0 x))).size ≤ 9 := by omega
            clear hb
            have hvl := HVL.out
            by_cases ht : triR 0 x = three s 0
            · have hq : (((ofL (modeL (valR 0 x))).extract 6 9).toList == (s.extract 6 9).toList) = true := seq_t (by have e1 := HCT.out; have e2 := HC3.out; simp only [Nat.reduceMul, Nat.reduceSub] at e1 e2; rw [e1, e2, ht])
              rw [if_pos ht] at HSX
              rw [decide_eq_true ht] at HMX
              clear ht
              generalize valR 0 x = N at *
              go_wp2
              go_roundw
              case rel => exact ⟨x + 1, by omega, by go_num, by rw [HSX.out]; congr 1; omega, by rw [HMX.out]; simp, HB1⟩
              case measure => simp [intOf]; omega
            · have hq : (((ofL (modeL (valR 0 x))).extract 6 9).toList == (s.extract 6 9).toList) = false := seq_f (by have e1 := HCT.out; have e2 := HC3.out; simp only [Nat.reduceMul, Nat.reduceSub] at e1 e2; rw [e1, e2]; exact fun e => ht (ofL_eq e))
              rw [if_neg ht] at HSX
              rw [decide_eq_false ht] at HMX
              clear ht
              generalize valR 0 x = N at *
              go_wp2
              go_roundw
              case rel => exact ⟨x + 1, by omega, by go_num, by rw [HSX.out]; rfl, by rw [HMX.out]; simp, HB1⟩
              case measure => simp [intOf]; omega
          · obtain rfl : x = 16 := by omega
            by_cases hmt : metR 0 (three s 0) 16 = true
            · have HST2 := Lib.hid (HST.out)
              have hmt2 := hmt
              rw [hmt]
              go_wp2
              go_roundw
              case rel => exact ⟨3, 0 - 1, by omega, by omega, by go_num, by rw [HST.out], Lib.hid (fun j hj => by
                by_cases e : j = 2
                · subst e; exact hmt
                · exact HMT.out j (by omega)), HBI⟩
              case measure => simp [intOf]
            · have hmf : metR 0 (three s 0) 16 = false := by simpa using hmt
              have HF := Lib.hid (HUN.out hmf)
              rw [hmf]
              clear hmt hmf
              go_wp2
              go_ret2
              exact ⟨ret_ii HF.out, HBI.out⟩
    · obtain rfl : d = 3 := by omega
      have HF := Lib.hid (modeOf_met HS.out HMT.out)
      obtain rfl : j = -1 := by omega
      go_wp2
      go_ret2
      exact ⟨ret_ii HF.out, HB.out⟩
set_option maxRecDepth 100000 in
theorem Parse_any (s : ByteArray) (w : World) (hs : s.size ≤ maxLen) :
    Calls Try.prog 5 #[.string s] w fun e w' => e = .returned (.tuple #[.int .i64 (modeOf s).1, .int .i64 (modeOf s).2]) ∧ w = w' := by
  by_cases h : s.size = 9
  · exact Parse_in s w h
  · have HF := Lib.hid (modeOf_size h)
    unfold maxLen at hs
    go_enter Try.func5, Try.ntmps5
    go_wp2
    go_ret2
    exact ⟨ret_ii HF.out, rfl⟩
set_option maxRecDepth 100000 in
theorem ModeOf_any (s : ByteArray) (w : World) (hs : s.size ≤ maxLen) :
    Calls Try.prog 6 #[.string s] w fun e w' => e = .returned (.tuple #[.int .i64 (modeOf s).1, .int .i64 (modeOf s).2]) ∧ Below w.heap.size w w' := by
  by_cases h : s.size = 9
  · exact ModeOf_in s w h
  · have HF := Lib.hid (modeOf_size h)
    unfold maxLen at hs
    go_enter Try.func6, Try.ntmps6
    go_wp2
    go_ret2
    exact ⟨ret_ii HF.out, Below.refl _ _⟩
end Go.Proofs.Ytiiojjhfncefgab
