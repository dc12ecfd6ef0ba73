/-
  The law GlobFits, walked.
-/
import Derived.Test.YtecmcgedeaemgaaDoorGlobPaths
import Derived.Test.YtecmcgedeaemgaaDoorMaxOk
import Derived.Test.YtecmcgedeaemgaaDoorLaid
namespace Go.Proofs.YtecmcgedeaemgaaDoor
set_option linter.unusedVariables false
open Go.Creel Go.RowKit
set_option maxRecDepth 100000 in
theorem globFits_walk (w : World) (p : ByteArray) (hp : p.size ≤ maxLen) (s : ByteArray) (hs : s.size ≤ maxLen) (hsh : w.ShapedOpen Tryd.prog) (_hL : laidMetH Tryd.prog Rows.globFitsRow.laid w) :
    Calls Tryd.prog 4 #[.string p, .string s] w fun e w' => e = .returned (.bool true) ∧ Below w.heap.size w w' := by
  have HM := Lib.hid (maxOk_of w hsh)
  have HL := Lib.hid (fun w hM => GlobFitsL_any p s w hM hp hs)
  have HR := Lib.hid (fun w => GlobFitsR_any p s w hp hs)
  generalize globFitsE p s = r at *
  obtain ⟨b, c⟩ := r
  clear hsh _hL
  go_enter Tryd.func4, Tryd.ntmps4
  go_wp2_with fail
  refine (HL.out _ HM.out).mono ?_
  rintro e w1 ⟨rfl, hb⟩
  have HB := Lib.hid hb
  clear hb
  go_wp2_with fail
  refine (HR.out _).mono ?_
  rintro e w2 ⟨rfl, hb⟩
  have HB2 := Lib.hid (HB.out.trans (hb.mono HB.out.size))
  clear hb
  go_wp2
  go_ret
  exact ⟨rfl, HB2.out⟩
end Go.Proofs.YtecmcgedeaemgaaDoor
