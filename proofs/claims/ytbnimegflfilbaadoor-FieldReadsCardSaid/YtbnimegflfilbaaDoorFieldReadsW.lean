/-
  The law FieldReads, walked.
-/
import Derived.Test.YtbnimegflfilbaaDoorFieldOf
namespace Go.Proofs.YtbnimegflfilbaaDoor
set_option linter.unusedVariables false
open Go.Creel Go.RowKit
set_option maxRecDepth 100000 in
theorem fieldReads_walk (w : World) (s : ByteArray) (hs : s.size ≤ maxLen) (b : Bool) (_hsh : w.ShapedOpen Tryd.prog) (_hL : laidMetH Tryd.prog Rows.fieldReadsRow.laid w) :
    Calls Tryd.prog 4 #[.string s, .bool b] w fun e w' => e = .returned (.bool true) ∧ Below w.heap.size w w' := by
  clear _hsh _hL
  go_enter Tryd.func4, Tryd.ntmps4
  go_wp2_with fail
  refine (FieldRead_any _ _ _ hs).mono ?_
  rintro e w1 ⟨rfl, hb⟩
  have HB := Lib.hid hb
  clear hb
  go_wp2_with fail
  refine (FieldOf_any _ _ _ hs).mono ?_
  rintro e w2 ⟨rfl, hb⟩
  have HB2 := Lib.hid (HB.out.trans (hb.mono HB.out.size))
  clear hb
  go_wp2
  go_ret
  exact ⟨rfl, HB2.out⟩
end Go.Proofs.YtbnimegflfilbaaDoor
