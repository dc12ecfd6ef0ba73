/-
  Texts of this proof, one behind the other: OrderWalksW.
-/
import Derived.Test.YtecmcgedeaemgaaDoorDepth
import Derived.Test.YtecmcgedeaemgaaDoorSameTexts
import Derived.Test.YtecmcgedeaemgaaDoorMaxOk
import Derived.Test.YtecmcgedeaemgaaDoorLaid
/-
  The law OrderWalks, walked.
-/
namespace Go.Creel
theorem orderWalk_len (l : List Nod) : (orderWalk l).1.length ≤ 8000000000 := by
  by_cases h : treeFault l = 0
  · rw [orderWalk_ok h]; have := (treeFault_all h).1; simp only [List.length_map]; omega
  · rw [orderWalk_bad h]; simp
end Go.Creel
namespace Go.Proofs.YtecmcgedeaemgaaDoor
set_option linter.unusedVariables false
open Go.Creel Go.RowKit
set_option maxRecDepth 100000 in
set_option maxHeartbeats 1000000 in
theorem orderWalks_walk (w : World) (v : Value) (l : List Nod) (h : SliceC maxLen 12 (NodC maxLen) w [v] l) (hsh : w.ShapedOpen Tryd.prog) (_hL : laidMetH Tryd.prog Rows.orderWalksRow.laid w) :
    Calls Tryd.prog 10 #[v] w fun e w' => e = .returned (.bool true) ∧ Below w.heap.size w w' := by
  have HM := Lib.hid (maxOk_of w hsh)
  have H := Lib.hid h
  have HLN := Lib.hid (orderWalk_len l)
  have HW := Lib.hid (fun (w : World) hM (h : SliceC maxLen 12 (NodC maxLen) w [v] l) => WalkG_any v l w hM h)
  have HD := Lib.hid (fun (w : World) hM (h : SliceC maxLen 12 (NodC maxLen) w [v] l) => DepthL_any v l w hM h)
  have HWR := Lib.hid (fun (w : World) (h : SliceC maxLen 12 (NodC maxLen) w [v] l) => WalkR_any v l w h)
  have HDR := Lib.hid (fun (w : World) (h : SliceC maxLen 12 (NodC maxLen) w [v] l) => DepthR_any v l w h)
  generalize orderWalk l = p at *
  generalize orderDepth l = q at *
  obtain ⟨fl, fe⟩ := p
  obtain ⟨q1, q2⟩ := q
  clear h hsh _hL
  go_enter Tryd.func10, Tryd.ntmps10
  go_wp2_with fail
  refine (HW.out _ HM.out H.out).mono ?_
  rintro e w1 ⟨v1, rfl, ho, hb⟩
  have HB1 := Lib.hid hb
  have HO1 := Lib.hid ho
  clear hb ho
  go_wp2_with fail
  refine (HD.out _ (HM.out.below HB1.out) (nods_below H.out HB1.out)).mono ?_
  rintro e w2 ⟨rfl, hb⟩
  have HB2 := Lib.hid (HB1.out.trans (hb.mono HB1.out.size))
  have HO2 := Lib.hid (HO1.out.below hb)
  clear hb
  go_wp2_with fail
  refine (HWR.out _ (nods_below H.out HB2.out)).mono ?_
  rintro e w3 ⟨v3, rfl, ho, hb⟩
  have HB3 := Lib.hid (HB2.out.trans (hb.mono HB2.out.size))
  have HO3 := Lib.hid (HO2.out.below hb)
  have HP3 := Lib.hid ho
  clear hb ho
  go_wp2_with fail
  refine (HDR.out _ (nods_below H.out HB3.out)).mono ?_
  rintro e w4 ⟨rfl, hb⟩
  have HB4 := Lib.hid (HB3.out.trans (hb.mono HB3.out.size))
  have HO4 := Lib.hid (HO3.out.below hb)
  have HP4 := Lib.hid (HP3.out.below hb)
  clear hb
  go_wp2_with fail
  refine (lawTexts_eq _ _ _ v1 v3 fl HLN.out HO4.out HP4.out).mono ?_
  rintro e w5 ⟨rfl, hb⟩
  have HB5 := Lib.hid (HB4.out.trans (hb.mono HB4.out.size))
  clear hb
  go_wp2
  go_ret
  exact ⟨rfl, HB5.out⟩
end Go.Proofs.YtecmcgedeaemgaaDoor
