/-
  The law FilterTakes, walked.
-/
import Derived.Test.YtecmcgedeaemgaaDoorTakesE
import Derived.Test.YtecmcgedeaemgaaDoorMaxOk
import Derived.Test.YtecmcgedeaemgaaDoorLaid
namespace Go.Proofs.YtecmcgedeaemgaaDoor
set_option linter.unusedVariables false
open Go.Creel Go.RowKit
set_option maxRecDepth 100000 in
theorem filterTakes_walk (w : World) (v : Value) (l : List Rul) (h : SliceC maxLen 2 (RulC maxLen) w [v] l) (s : ByteArray) (hs : s.size ≤ maxLen) (hsh : w.ShapedOpen Tryd.prog) (_hL : laidMetH Tryd.prog Rows.filterTakesRow.laid w) :
    Calls Tryd.prog 5 #[v, .string s] w fun e w' => e = .returned (.bool true) ∧ Below w.heap.size w w' := by
  have HM := Lib.hid (maxOk_of w hsh)
  have H := Lib.hid h
  have HCL := Lib.hid (fun w hM (h : SliceC maxLen 2 (RulC maxLen) w [v] l) => RulesL_any v l w hM h)
  have HCR := Lib.hid (fun w (h : SliceC maxLen 2 (RulC maxLen) w [v] l) => RulesR_any v l w h)
  have HL := Lib.hid (fun w hM (h : SliceC maxLen 2 (RulC maxLen) w [v] l) => TakesEL_any v l s w hM hs h)
  have HR := Lib.hid (fun w (h : SliceC maxLen 2 (RulC maxLen) w [v] l) => TakesER_any v l s w hs h)
  generalize takesE l s = r at *
  generalize rulesFault l = c at *
  clear hsh _hL h
  go_enter Tryd.func5, Tryd.ntmps5
  go_wp2_with fail
  refine (HCL.out _ HM.out H.out).mono ?_
  rintro e w1 ⟨rfl, hb⟩
  have HB1 := Lib.hid hb
  clear hb
  go_wp2_with fail
  refine (HL.out _ (HM.out.below HB1.out) (ruls_below H.out HB1.out)).mono ?_
  rintro e w2 ⟨rfl, hb⟩
  have HB2 := Lib.hid (HB1.out.trans (hb.mono HB1.out.size))
  clear hb
  go_wp2_with fail
  refine (HCR.out _ (ruls_below H.out HB2.out)).mono ?_
  rintro e w3 ⟨rfl, hb⟩
  have HB3 := Lib.hid (HB2.out.trans (hb.mono HB2.out.size))
  clear hb
  go_wp2_with fail
  refine (HR.out _ (ruls_below H.out HB3.out)).mono ?_
  rintro e w4 ⟨rfl, hb⟩
  have HB4 := Lib.hid (HB3.out.trans (hb.mono HB3.out.size))
  clear hb
  go_wp2
  go_ret
  exact ⟨rfl, HB4.out⟩
end Go.Proofs.YtecmcgedeaemgaaDoor
