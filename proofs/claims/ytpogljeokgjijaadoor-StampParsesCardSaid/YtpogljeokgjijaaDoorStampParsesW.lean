/-
  The law StampParses, walked.
-/
import Derived.Test.YtpogljeokgjijaaDoorTimeR
namespace Go.Proofs.YtpogljeokgjijaaDoor
set_option linter.unusedVariables false
set_option linter.unusedSimpArgs false
open Go.Creel Go.RowKit
set_option maxRecDepth 100000 in
theorem stampParses_walk (w : World) (s : ByteArray) (hs : s.size ≤ maxLen) (_hsh : w.ShapedOpen Tryd.prog) (hL : laidMetH Tryd.prog Rows.stampParsesRow.laid w) :
    Calls Tryd.prog 4 #[.string s] w fun e w' => e = .returned (.bool true) ∧ Below w.heap.size w w' := by
  have HT := Lib.hid (pow10_laid_sp w hL)
  have hll : s.data.toList.length ≤ maxLen := by simpa using hs
  have H1 := Lib.hid (fun w h => StampParse_any s.data.toList w hll h)
  have H2 := Lib.hid (fun w h => TimeOf_any s.data.toList w hll h)
  rw [ofL_of, time_both] at H1
  rw [ofL_of] at H2
  clear _hsh hL hll
  generalize timeAns s.data.toList (rawR s.data.toList) = p at *
  obtain ⟨a, b, c⟩ := p
  go_enter Tryd.func4, Tryd.ntmps4
  go_wp2_with fail
  refine (H1.out _ HT.out).mono ?_
  rintro e w1 ⟨rfl, hb⟩
  have HB := Lib.hid hb
  clear hb
  go_wp2_with fail
  refine (H2.out _ (HT.out.below HB.out)).mono ?_
  rintro e w2 ⟨rfl, hb⟩
  have HB2 := Lib.hid (HB.out.trans (hb.mono HB.out.size))
  clear hb
  have q1 : (a == a) = true := by simp
  have q2 : (b == b) = true := by simp
  have q3 : (c == c) = true := by simp
  go_wp2
  go_ret
  exact ⟨rfl, HB2.out⟩
end Go.Proofs.YtpogljeokgjijaaDoor
