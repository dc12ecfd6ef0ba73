/-
  filter.Takes and its reference, walked.
-/
import Derived.Test.YtecmcgedeaemgaaDoorTakes
namespace Go.Proofs.YtecmcgedeaemgaaDoor
set_option linter.unusedVariables false
set_option linter.unusedSimpArgs false
open Go.Creel Go.RowKit
set_option maxRecDepth 100000 in
set_option maxHeartbeats 1000000 in
theorem TakesEL_any (v : Value) (l : List Rul) (s : ByteArray) (w : World) (hM : MaxOk w) (hs : s.size ≤ maxLen) (h : SliceC maxLen 2 (RulC maxLen) w [v] l) :
    Calls Tryd.prog 22 #[v, .string s] w fun e w' => e = .returned (.tuple #[.bool (takesE l s).1, .int .i64 (takesE l s).2]) ∧ Below w.heap.size w w' := by
  have HM := Lib.hid hM
  clear hM
  have HC := Lib.hid (fun w hM (h : SliceC maxLen 2 (RulC maxLen) w [v] l) => RulesL_any v l w hM h)
  have HC2 := Lib.hid (fun w hM => PathCheck_any s w hM hs)
  have HT := Lib.hid (fun w hM (h : SliceC maxLen 2 (RulC maxLen) w [v] l) => TakesL_any v l s w hM hs h)
  have H := Lib.hid h
  clear h
  by_cases h0 : rulesFault l = 0
  · rw [h0] at HC
    by_cases h1 : pathFault s = 0
    · rw [h1] at HC2
      have HF := Lib.hid (takesE_ok h0 h1)
      generalize takesE l s = r at *
      clear h0 h1
      go_enter Tryd.func22, Tryd.ntmps22
      go_wp2_with fail
      refine (HC.out _ HM.out H.out).mono ?_
      rintro e w1 ⟨rfl, hb⟩
      have HB1 := Lib.hid hb
      clear hb
      go_wp2_with fail
      refine (HC2.out _ (HM.out.below HB1.out)).mono ?_
      rintro e w2 ⟨rfl, hb⟩
      have HB2 := Lib.hid (HB1.out.trans (hb.mono HB1.out.size))
      clear hb
      go_wp2_with fail
      refine (HT.out _ (HM.out.below HB2.out) (ruls_below H.out HB2.out)).mono ?_
      rintro e w3 ⟨rfl, hb⟩
      have HB3 := Lib.hid (HB2.out.trans (hb.mono HB2.out.size))
      clear hb
      go_wp2
      go_ret2
      exact ⟨ret_bi HF.out, HB3.out⟩
    · have HF := Lib.hid (takesE_path h0 h1)
      generalize takesE l s = r at *
      generalize pathFault s = c at *
      clear h0
      have hq : (c == 0) = false := by rw [beq_eq_false_iff_ne]; exact h1
      clear h1
      go_enter Tryd.func22, Tryd.ntmps22
      go_wp2_with fail
      refine (HC.out _ HM.out H.out).mono ?_
      rintro e w1 ⟨rfl, hb⟩
      have HB1 := Lib.hid hb
      clear hb
      go_wp2_with fail
      refine (HC2.out _ (HM.out.below HB1.out)).mono ?_
      rintro e w2 ⟨rfl, hb⟩
      have HB2 := Lib.hid (HB1.out.trans (hb.mono HB1.out.size))
      clear hb
      go_wp2
      go_ret2
      exact ⟨ret_bi HF.out, HB2.out⟩
  · have HF := Lib.hid (takesE_bad (s := s) h0)
    generalize takesE l s = r at *
    generalize rulesFault l = c at *
    have hq : (c == 0) = false := by rw [beq_eq_false_iff_ne]; exact h0
    clear h0
    go_enter Tryd.func22, Tryd.ntmps22
    go_wp2_with fail
    refine (HC.out _ HM.out H.out).mono ?_
    rintro e w1 ⟨rfl, hb⟩
    have HB1 := Lib.hid hb
    clear hb
    go_wp2
    go_ret2
    exact ⟨ret_bi HF.out, HB1.out⟩
set_option maxRecDepth 100000 in
set_option maxHeartbeats 1000000 in
theorem TakesER_any (v : Value) (l : List Rul) (s : ByteArray) (w : World) (hs : s.size ≤ maxLen) (h : SliceC maxLen 2 (RulC maxLen) w [v] l) :
    Calls Tryd.prog 24 #[v, .string s] w fun e w' => e = .returned (.tuple #[.bool (takesE l s).1, .int .i64 (takesE l s).2]) ∧ Below w.heap.size w w' := by
  have HC := Lib.hid (fun w (h : SliceC maxLen 2 (RulC maxLen) w [v] l) => RulesR_any v l w h)
  have HC2 := Lib.hid (fun w => PathFault_any s w hs)
  have HT := Lib.hid (fun w (h : SliceC maxLen 2 (RulC maxLen) w [v] l) => TakenR_any v l s w hs h)
  have H := Lib.hid h
  clear h
  by_cases h0 : rulesFault l = 0
  · rw [h0] at HC
    by_cases h1 : pathFault s = 0
    · rw [h1] at HC2
      have HF := Lib.hid (takesE_ok h0 h1)
      generalize takesE l s = r at *
      clear h0 h1
      go_enter Tryd.func24, Tryd.ntmps24
      go_wp2_with fail
      refine (HC.out _ H.out).mono ?_
      rintro e w1 ⟨rfl, hb⟩
      have HB1 := Lib.hid hb
      clear hb
      go_wp2_with fail
      refine (HC2.out _).mono ?_
      rintro e w2 ⟨rfl, hb⟩
      have HB2 := Lib.hid (HB1.out.trans (hb.mono HB1.out.size))
      clear hb
      go_wp2_with fail
      refine (HT.out _ (ruls_below H.out HB2.out)).mono ?_
      rintro e w3 ⟨rfl, hb⟩
      have HB3 := Lib.hid (HB2.out.trans (hb.mono HB2.out.size))
      clear hb
      go_wp2
      go_ret2
      exact ⟨ret_bi HF.out, HB3.out⟩
    · have HF := Lib.hid (takesE_path h0 h1)
      generalize takesE l s = r at *
      generalize pathFault s = c at *
      clear h0
      have hq : (c == 0) = false := by rw [beq_eq_false_iff_ne]; exact h1
      clear h1
      go_enter Tryd.func24, Tryd.ntmps24
      go_wp2_with fail
      refine (HC.out _ H.out).mono ?_
      rintro e w1 ⟨rfl, hb⟩
      have HB1 := Lib.hid hb
      clear hb
      go_wp2_with fail
      refine (HC2.out _).mono ?_
      rintro e w2 ⟨rfl, hb⟩
      have HB2 := Lib.hid (HB1.out.trans (hb.mono HB1.out.size))
      clear hb
      go_wp2
      go_ret2
      exact ⟨ret_bi HF.out, HB2.out⟩
  · have HF := Lib.hid (takesE_bad (s := s) h0)
    generalize takesE l s = r at *
    generalize rulesFault l = c at *
    have hq : (c == 0) = false := by rw [beq_eq_false_iff_ne]; exact h0
    clear h0
    go_enter Tryd.func24, Tryd.ntmps24
    go_wp2_with fail
    refine (HC.out _ H.out).mono ?_
    rintro e w1 ⟨rfl, hb⟩
    have HB1 := Lib.hid hb
    clear hb
    go_wp2
    go_ret2
    exact ⟨ret_bi HF.out, HB1.out⟩
end Go.Proofs.YtecmcgedeaemgaaDoor
