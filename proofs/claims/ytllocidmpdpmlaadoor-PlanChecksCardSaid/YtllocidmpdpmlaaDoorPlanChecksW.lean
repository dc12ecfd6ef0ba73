/-
  The law PlanChecks, walked.
-/
import Derived.Test.YtllocidmpdpmlaaDoorEntsCheck
import Derived.Test.YtllocidmpdpmlaaDoorMaxOk
import Derived.Test.YtllocidmpdpmlaaDoorLaid
namespace Go.Proofs.YtllocidmpdpmlaaDoor
set_option linter.unusedVariables false
open Go.Creel Go.RowKit
set_option maxRecDepth 100000 in
theorem planChecks_walk (w : World) (v : Value) (l : List Ent) (h : SliceC maxLen 11 (EntC maxLen) w [v] l) (hsh : w.ShapedOpen Tryd.prog) (_hL : laidMetH Tryd.prog Rows.planChecksRow.laid w) :
    Calls Tryd.prog 9 #[v] w fun e w' => e = .returned (.bool true) ∧ Below w.heap.size w w' := by
  have HM := Lib.hid (maxOk_of w hsh)
  have H := Lib.hid h
  clear h hsh _hL
  go_enter Tryd.func9, Tryd.ntmps9
  go_wp2_with fail
  refine (EntsCheck_any _ l _ HM.out H.out).mono ?_
  rintro e w1 ⟨rfl, hb⟩
  have HB1 := Lib.hid hb
  have H1 := Lib.hid (ents_below H.out hb)
  clear hb
  go_wp2_with fail
  refine (EntsFault_any _ l _ H1.out).mono ?_
  rintro e w2 ⟨rfl, hb⟩
  have HB2 := Lib.hid (HB1.out.trans (hb.mono HB1.out.size))
  clear hb
  generalize entsFault l = q
  go_wp2
  go_ret
  exact ⟨rfl, HB2.out⟩
end Go.Proofs.YtllocidmpdpmlaaDoor
