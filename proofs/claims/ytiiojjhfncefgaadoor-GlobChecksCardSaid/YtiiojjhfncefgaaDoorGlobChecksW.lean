/-
  The law GlobChecks, walked.
-/
import Derived.Test.YtiiojjhfncefgaaDoorGlobFault
import Derived.Test.YtiiojjhfncefgaaDoorMaxOk
import Derived.Test.YtiiojjhfncefgaaDoorLaid
namespace Go.Proofs.YtiiojjhfncefgaaDoor
set_option linter.unusedVariables false
open Go.Creel Go.RowKit
set_option maxRecDepth 100000 in
theorem globChecks_walk (w : World) (s : ByteArray) (hs : s.size ≤ maxLen) (hsh : w.ShapedOpen Tryd.prog) (_hL : laidMetH Tryd.prog Rows.globChecksRow.laid w) :
    Calls Tryd.prog 12 #[.string s] w fun e w' => e = .returned (.bool true) ∧ Below w.heap.size w w' := by
  have HM := Lib.hid (maxOk_of w hsh)
  clear hsh _hL
  go_enter Tryd.func12, Tryd.ntmps12
  go_wp2_with fail
  refine (GlobCheck_any s _ HM.out hs).mono ?_
  rintro e w1 ⟨rfl, hb⟩
  have HB := Lib.hid hb
  clear hb
  go_wp2_with fail
  refine (GlobFault_any s _ hs).mono ?_
  rintro e w2 ⟨rfl, hb⟩
  have HB2 := Lib.hid (HB.out.trans (hb.mono HB.out.size))
  clear hb
  go_wp2
  go_ret
  exact ⟨rfl, HB2.out⟩
end Go.Proofs.YtiiojjhfncefgaaDoor
