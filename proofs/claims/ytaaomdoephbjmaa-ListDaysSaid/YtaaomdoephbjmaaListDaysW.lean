/-
  The law ListDays, walked.
-/
import Derived.Test.YtaaomdoephbjmaaDayRef
namespace Go.Proofs.Ytaaomdoephbjmaa
set_option linter.unusedVariables false
open Go.Creel Go.RowKit
set_option maxRecDepth 100000 in
theorem listDays_walk (w : World) (s : Int) (hs : -9223372036854775808 ≤ s ∧ s ≤ 9223372036854775807) :
    Calls Try.prog 5 #[.int .i64 s] w fun e w' => e = .returned (.bool true) ∧ Below w.heap.size w w' := by
  have HD := Lib.hid (Day_any s w hs)
  have HE := Lib.hid (DayOf_any s w hs)
  generalize dayOf s = R at *
  obtain ⟨a, b, c, d⟩ := R
  clear hs
  go_enter Try.func5, Try.ntmps5
  go_wp2_with fail
  refine HD.out.mono ?_
  rintro e w1 ⟨rfl, rfl⟩
  go_wp2_with fail
  refine HE.out.mono ?_
  rintro e w2 ⟨rfl, hb⟩
  have HB2 := Lib.hid hb
  clear hb
  go_wp2
  go_ret
  exact ⟨rfl, HB2.out⟩
end Go.Proofs.Ytaaomdoephbjmaa
