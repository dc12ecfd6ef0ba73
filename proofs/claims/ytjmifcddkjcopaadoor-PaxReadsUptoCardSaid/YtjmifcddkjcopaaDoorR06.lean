/-
  Texts: PaxReadsW.
-/
import Derived.Test.YtjmifcddkjcopaaDoorR05
set_option linter.unusedVariables false
set_option linter.unusedSimpArgs false
set_option linter.unusedSectionVars false
namespace Go.Proofs.YtjmifcddkjcopaaDoor
open Go.Creel Go.RowKit
theorem pow10_laid_pr (w : World) (h : laidMetH Tryd.prog Rows.paxReadsUptoRow.laid w) : Pow10 w := by
  obtain ⟨ps, hp, _⟩ := (show laidMet Tryd.prog Rows.paxReadsUptoRow.laid w from h)
  exact tabIs_laid (g := 5) (t := 99) (e := 71) (n := 20) (by kernel_rfl) (by kernel_rfl) (by kernel_rfl) (by kernel_rfl) (by kernel_rfl) (by kernel_rfl) _ ps 2 hp rfl
set_option maxRecDepth 100000 in
set_option maxHeartbeats 2000000 in
theorem paxReads_walk (w : World) (s : ByteArray) (hs : s.size ≤ 1048576) (_hsh : w.ShapedOpen Tryd.prog) (hL : laidMetH Tryd.prog Rows.paxReadsUptoRow.laid w) :
    Calls Tryd.prog 4 #[.string s] w fun e w' => e = .returned (.bool true) ∧ Below w.heap.size w w' := by
  have HT := Lib.hid (pow10_laid_pr w hL)
  have H1 := Lib.hid (fun w h => PaxRead_any s w hs h)
  have H2 := Lib.hid (fun w h => PaxOf_any s w hs h)
  clear _hsh hL
  generalize paxOf s = p at *
  obtain ⟨l, e0⟩ := p
  go_enter Tryd.func4, Tryd.ntmps4
  go_wp2_with fail
  refine (H1.out _ HT.out).mono ?_
  rintro e w1 ⟨v1, rfl, ho1, hb⟩
  have HB1 := Lib.hid hb
  have HO1 := Lib.hid ho1
  clear hb ho1
  go_wp2_with fail
  refine (H2.out _ (HT.out.below HB1.out)).mono ?_
  rintro e w2 ⟨v2, rfl, ho2, hb⟩
  have HB2 := Lib.hid (HB1.out.trans (hb.mono HB1.out.size))
  have HO1' := Lib.hid (HO1.out.below hb)
  have HO2 := Lib.hid ho2
  clear hb ho2
  go_wp2_with fail
  refine (SameRecs_any v1 v2 l _ _ _ HO1'.out HO2.out).mono ?_
  rintro e w3 ⟨rfl, hb⟩
  have HB3 := Lib.hid (HB2.out.trans (hb.mono HB2.out.size))
  clear hb
  have q1 : (e0 == e0) = true := by simp
  go_wp2
  go_ret
  exact ⟨rfl, HB3.out⟩
end Go.Proofs.YtjmifcddkjcopaaDoor
