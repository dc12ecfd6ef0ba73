/-
  The law MetaTells, walked.
-/
import Derived.Test.YtaaomdoephbjmaaModeRef
namespace Go.Proofs.Ytaaomdoephbjmaa
set_option linter.unusedVariables false
open Go.Creel Go.RowKit
set_option maxRecDepth 100000 in
theorem metaTells_walk (w : World) (m : Int) (hm : -9223372036854775808 ≤ m ∧ m ≤ 9223372036854775807) :
    Calls Try.prog 3 #[.int .i64 m] w fun e w' => e = .returned (.bool true) ∧ Below w.heap.size w w' := by
  have HD := Lib.hid (fun w => ModeText_any m w hm)
  have HE := Lib.hid (fun w => RefMode_any m w hm)
  generalize modeText m = R at *
  obtain ⟨a, b⟩ := R
  clear hm
  go_enter Try.func3, Try.ntmps3
  go_wp2_with fail
  refine (HD.out _).mono ?_
  rintro e w1 ⟨rfl, hb⟩
  have HB1 := Lib.hid hb
  clear hb
  go_wp2_with fail
  refine (HE.out _).mono ?_
  rintro e w2 ⟨rfl, hb⟩
  have HB2 := Lib.hid (HB1.out.trans (hb.mono HB1.out.size))
  clear hb
  go_wp2
  go_ret
  exact ⟨rfl, HB2.out⟩
end Go.Proofs.Ytaaomdoephbjmaa
