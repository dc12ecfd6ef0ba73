/-
  The law MetaParses, walked.
-/
import Derived.Test.YtiiojjhfncefgabParseR
namespace Go.Proofs.Ytiiojjhfncefgab
set_option linter.unusedVariables false
open Go.Creel Go.RowKit
set_option maxRecDepth 100000 in
theorem metaParses_walk (w : World) (s : ByteArray) (hs : s.size ≤ maxLen) :
    Calls Try.prog 3 #[.string s] w fun e w' => e = .returned (.bool true) ∧ Below w.heap.size w w' := by
  have HD := Lib.hid (fun w => Parse_any s w hs)
  have HE := Lib.hid (fun w => ModeOf_any s w hs)
  generalize modeOf s = R at *
  obtain ⟨a, b⟩ := R
  clear hs
  go_enter Try.func3, Try.ntmps3
  go_wp2_with fail
  refine (HD.out _).mono ?_
  rintro e w1 ⟨rfl, rfl⟩
  go_wp2_with fail
  refine (HE.out _).mono ?_
  rintro e w2 ⟨rfl, hb⟩
  have HB2 := Lib.hid hb
  clear hb
  go_wp2
  go_ret
  exact ⟨rfl, HB2.out⟩
end Go.Proofs.Ytiiojjhfncefgab
