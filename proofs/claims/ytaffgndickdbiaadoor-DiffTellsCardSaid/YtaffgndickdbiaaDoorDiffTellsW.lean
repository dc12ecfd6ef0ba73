/-
  The law DiffTells, walked.
-/
import Derived.Test.YtaffgndickdbiaaDoorDiffR
import Derived.Test.YtaffgndickdbiaaDoorSameChgs
import Derived.Test.YtaffgndickdbiaaDoorMaxOk
import Derived.Test.YtaffgndickdbiaaDoorLaid
namespace Go.Proofs.YtaffgndickdbiaaDoor
set_option linter.unusedVariables false
open Go.Creel Go.RowKit
set_option maxRecDepth 100000 in
set_option maxHeartbeats 1000000 in
theorem diffTells_walk (w : World) (v : Value) (a : List Nod) (ha : SliceC maxLen 12 (NodC maxLen) w [v] a) (u : Value) (b : List Nod) (hb : SliceC maxLen 12 (NodC maxLen) w [u] b) (hsh : w.ShapedOpen Tryd.prog) (_hL : laidMetH Tryd.prog Rows.diffTellsRow.laid w) :
    Calls Tryd.prog 3 #[v, u] w fun e w' => e = .returned (.bool true) ∧ Below w.heap.size w w' := by
  have HM := Lib.hid (maxOk_of w hsh)
  have H := Lib.hid ha
  have HU := Lib.hid hb
  have HA := Lib.hid (fun (w : World) (hM : MaxOk w) (ha : SliceC maxLen 12 (NodC maxLen) w [v] a) (hb : SliceC maxLen 12 (NodC maxLen) w [u] b) => DiffL_any v u a b w hM ha hb)
  have HC := Lib.hid (fun (w : World) (ha : SliceC maxLen 12 (NodC maxLen) w [v] a) (hb : SliceC maxLen 12 (NodC maxLen) w [u] b) => DiffR_any v u a b w ha hb)
  generalize diffOf a b = p at *
  obtain ⟨fl, fe⟩ := p
  clear ha hb hsh _hL
  go_enter Tryd.func3, Tryd.ntmps3
  go_wp2_with fail
  refine (HA.out _ HM.out H.out HU.out).mono ?_
  rintro e w1 ⟨v1, c1, rfl, ho, hc, hb⟩
  have HB1 := Lib.hid hb
  have HO1 := Lib.hid ho
  have HC1 := Lib.hid hc
  clear hb ho hc
  go_wp2_with fail
  refine (HC.out _ (nods_below H.out HB1.out) (nods_below HU.out HB1.out)).mono ?_
  rintro e w2 ⟨v2, c2, rfl, ho, hc, hb⟩
  have HB2 := Lib.hid (HB1.out.trans (hb.mono HB1.out.size))
  have HO2 := Lib.hid (HO1.out.below hb)
  have HP2 := Lib.hid ho
  have HCC := Lib.hid (HC1.out.trans hc.symm)
  clear hb ho hc
  have q1 : (fe == fe) = true := by simp
  go_wp2_with fail
  refine (SameChgs_eq _ _ _ _ c1 c2 _ HCC.out HO2.out HP2.out).mono ?_
  rintro e w3 ⟨rfl, hb⟩
  have HB3 := Lib.hid (HB2.out.trans (hb.mono HB2.out.size))
  clear hb
  go_wp2
  go_ret
  exact ⟨rfl, HB3.out⟩
end Go.Proofs.YtaffgndickdbiaaDoor
