/-
  The law PlanGrows, walked.
-/
import Derived.Test.YtiiojjhfncefgaaDoorGrowW
import Derived.Test.YtiiojjhfncefgaaDoorGrowRW
import Derived.Test.YtiiojjhfncefgaaDoorMaxOk
import Derived.Test.YtiiojjhfncefgaaDoorLaid
namespace Go.Creel
set_option linter.unusedVariables false
theorem grown_len (l : List Ent) : (grown l).1.length ≤ maxLen := by
  unfold maxLen
  by_cases h : entsFault l = 0
  · rw [grown_ok h]
    show (treeGrown l).length ≤ _
    unfold treeGrown
    rw [growL_len]
    have := (entsFault_all h).1
    omega
  · rw [grown_bad h]; simp
end Go.Creel
namespace Go.Proofs.YtiiojjhfncefgaaDoor
set_option linter.unusedVariables false
open Go.Creel Go.RowKit
set_option maxRecDepth 100000 in
set_option maxHeartbeats 1000000 in
theorem planGrows_walk (w : World) (v : Value) (l : List Ent) (h : SliceC maxLen 11 (EntC maxLen) w [v] l) (hsh : w.ShapedOpen Tryd.prog) (_hL : laidMetH Tryd.prog Rows.planGrowsRow.laid w) :
    Calls Tryd.prog 7 #[v] w fun e w' => e = .returned (.bool true) ∧ Below w.heap.size w w' := by
  have HM := Lib.hid (maxOk_of w hsh)
  have H := Lib.hid h
  have HL1 := Lib.hid (grown_len l)
  have HA := Lib.hid (fun (w : World) (hM : MaxOk w) (h : SliceC maxLen 11 (EntC maxLen) w [v] l) => GrowL_any v l w hM h)
  have HC := Lib.hid (fun (w : World) (h : SliceC maxLen 11 (EntC maxLen) w [v] l) => GrowR_any v l w h)
  generalize grown l = p at *
  obtain ⟨fl, fe⟩ := p
  clear h hsh _hL
  go_enter Tryd.func7, Tryd.ntmps7
  go_wp2_with fail
  refine (HA.out _ HM.out H.out).mono ?_
  rintro e w1 ⟨v1, c1, rfl, ho, hc, hb⟩
  have HB1 := Lib.hid hb
  have HO1 := Lib.hid ho
  have HC1 := Lib.hid hc
  have H1 := Lib.hid (ents_below H.out hb)
  clear hb ho hc
  go_wp2_with fail
  refine (HC.out _ H1.out).mono ?_
  rintro e w2 ⟨v2, c2, rfl, ho, hc, hb⟩
  have HB2 := Lib.hid (HB1.out.trans (hb.mono HB1.out.size))
  have HO2 := Lib.hid (HO1.out.below hb)
  have HP2 := Lib.hid ho
  have HCC := Lib.hid (HC1.out.trans hc.symm)
  have HN1 := Lib.hid (show c1.length ≤ maxLen by rw [bare_len HC1.out]; exact HL1.out)
  have HN2 := Lib.hid (show c2.length ≤ maxLen by rw [bare_len hc]; exact HL1.out)
  clear hb ho hc
  have q1 : (fe == fe) = true := by simp
  go_wp2_with fail
  refine (SameTree_eq _ _ c1 c2 _ HCC.out (HO2.out.slice HN1.out) (HP2.out.slice HN2.out)).mono ?_
  rintro e w3 ⟨rfl, hb⟩
  have HB3 := Lib.hid (HB2.out.trans (hb.mono HB2.out.size))
  clear hb
  go_wp2
  go_ret
  exact ⟨rfl, HB3.out⟩
end Go.Proofs.YtiiojjhfncefgaaDoor
