/-
  The law StampTells, walked.
-/
import Derived.Test.YtpogljeokgjijaaDoorStamp
namespace Go.Proofs.YtpogljeokgjijaaDoor
set_option linter.unusedVariables false
set_option linter.unusedSimpArgs false
open Go.Creel Go.RowKit
set_option maxRecDepth 100000 in
theorem stampTells_walk (w : World) (s : Int) (hs : i64 s) (n : Int) (hn : i64 n) (_hsh : w.ShapedOpen Tryd.prog) (hL : laidMetH Tryd.prog Rows.stampTellsRow.laid w) :
    Calls Tryd.prog 3 #[.int .i64 s, .int .i64 n] w fun e w' => e = .returned (.bool true) ∧ Below w.heap.size w w' := by
  have HT := Lib.hid (pow10_laid_st w hL)
  have H1 := Lib.hid (fun w => StampCheck_any s n w hs hn)
  have H2 := Lib.hid (fun w h => StampText_any s n w hs hn h)
  have H3 := Lib.hid (fun w => TimeFault_any s n w hs hn)
  have H4 := Lib.hid (fun w h => TimeText_any s n w hs hn h)
  clear _hsh hL
  generalize timeFault s n = q at *
  generalize timeText s n = p at *
  obtain ⟨t, e0⟩ := p
  go_enter Tryd.func3, Tryd.ntmps3
  go_wp2_with fail
  refine (H1.out _).mono ?_
  rintro e w1 ⟨rfl, rfl⟩
  go_wp2_with fail
  refine (H2.out _ HT.out).mono ?_
  rintro e w2 ⟨rfl, hb⟩
  have HB := Lib.hid hb
  clear hb
  go_wp2_with fail
  refine (H3.out _).mono ?_
  rintro e w3 ⟨rfl, rfl⟩
  go_wp2_with fail
  refine (H4.out _ (HT.out.below HB.out)).mono ?_
  rintro e w4 ⟨rfl, hb⟩
  have HB2 := Lib.hid (HB.out.trans (hb.mono HB.out.size))
  clear hb
  have q1 : (q == q) = true := by simp
  have q2 : (e0 == e0) = true := by simp
  go_wp2
  go_ret
  exact ⟨rfl, HB2.out⟩
end Go.Proofs.YtpogljeokgjijaaDoor
