/-
  The law CutJoins, walked.
-/
import Derived.Test.YtbnimegflfilbaaCutOne
namespace Go.Proofs.Ytbnimegflfilbaa
set_option linter.unusedVariables false
open Go.Creel Go.RowKit
set_option maxRecDepth 100000 in
theorem cutJoins_walk (w : World) (p : ByteArray) (hp : p.size ≤ maxLen) (n : ByteArray) (hn : n.size ≤ maxLen) :
    Calls Try.prog 3 #[.string p, .string n] w fun e w' => e = .returned (.bool true) ∧ Below w.heap.size w w' := by
  go_enter Try.func3, Try.ntmps3
  go_wp2_with fail
  refine (One_any _ _ _ hp hn).mono ?_
  rintro e w1 ⟨rfl, hb⟩
  have HB := Lib.hid hb
  clear hb
  go_wp2_with fail
  refine (CutOne_any _ _ _ hp hn).mono ?_
  rintro e w2 ⟨rfl, hb⟩
  have HB2 := Lib.hid (HB.out.trans (hb.mono HB.out.size))
  clear hb
  go_wp2
  go_ret
  exact ⟨rfl, HB2.out⟩
end Go.Proofs.Ytbnimegflfilbaa
