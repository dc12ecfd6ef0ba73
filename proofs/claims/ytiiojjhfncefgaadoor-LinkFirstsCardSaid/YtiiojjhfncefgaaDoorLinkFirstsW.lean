/-
  The law LinkFirsts, walked.
-/
import Derived.Test.YtiiojjhfncefgaaDoorLinkN
import Derived.Test.YtiiojjhfncefgaaDoorMaxOk
import Derived.Test.YtiiojjhfncefgaaDoorLaid
namespace Go.Creel
set_option linter.unusedVariables false
theorem linkFirsts_len (l : List Nod) : (linkFirsts l).1.length ≤ 8000000000 := by
  by_cases h : treeFault l = 0
  · rw [linkFirsts_ok h, firstsL_len]
    have := (treeFault_all h).1
    omega
  · rw [linkFirsts_bad h]; simp
theorem linkNames_len (l : List Nod) : (linkNames l).1.length ≤ 8000000000 := by
  by_cases h : treeFault l = 0
  · rw [linkNames_ok h, namesN_len]
    have := (treeFault_all h).1
    omega
  · rw [linkNames_bad h]; simp
end Go.Creel
namespace Go.Proofs.YtiiojjhfncefgaaDoor
set_option linter.unusedVariables false
open Go.Creel Go.RowKit
set_option maxRecDepth 100000 in
set_option maxHeartbeats 1000000 in
theorem linkFirsts_walk (w : World) (v : Value) (l : List Nod) (h : SliceC maxLen 12 (NodC maxLen) w [v] l) (hsh : w.ShapedOpen Tryd.prog) (_hL : laidMetH Tryd.prog Rows.linkFirstsRow.laid w) :
    Calls Tryd.prog 3 #[v] w fun e w' => e = .returned (.bool true) ∧ Below w.heap.size w w' := by
  have HM := Lib.hid (maxOk_of w hsh)
  have H := Lib.hid h
  have HL1 := Lib.hid (linkFirsts_len l)
  have HL2 := Lib.hid (linkNames_len l)
  have HA := Lib.hid (fun (w : World) (hM : MaxOk w) (h : SliceC maxLen 12 (NodC maxLen) w [v] l) => LinkL_any v l w hM h)
  have HB := Lib.hid (fun (w : World) (hM : MaxOk w) (h : SliceC maxLen 12 (NodC maxLen) w [v] l) => LinkN_any v l w hM h)
  have HC := Lib.hid (fun (w : World) (h : SliceC maxLen 12 (NodC maxLen) w [v] l) => LinkR_any v l w h)
  have HD := Lib.hid (fun (w : World) (h : SliceC maxLen 12 (NodC maxLen) w [v] l) => NamesR_any v l w h)
  generalize linkFirsts l = p at *
  generalize linkNames l = q at *
  obtain ⟨fl, fe⟩ := p
  obtain ⟨nl, ne⟩ := q
  clear h hsh _hL
  go_enter Tryd.func3, Tryd.ntmps3
  go_wp2_with fail
  refine (HA.out _ HM.out H.out).mono ?_
  rintro e w1 ⟨v1, rfl, ho, hb⟩
  have HB1 := Lib.hid hb
  have HO1 := Lib.hid ho
  have H1 := Lib.hid (nods_below H.out hb)
  have HM1 := Lib.hid (HM.out.below hb)
  clear hb ho
  go_wp2_with fail
  refine (HB.out _ HM1.out H1.out).mono ?_
  rintro e w2 ⟨v2, rfl, ho, hb⟩
  have HB2 := Lib.hid (HB1.out.trans (hb.mono HB1.out.size))
  have HO2 := Lib.hid (HO1.out.below hb)
  have HP2 := Lib.hid ho
  have H2 := Lib.hid (nods_below H1.out hb)
  clear hb ho
  go_wp2_with fail
  refine (HC.out _ H2.out).mono ?_
  rintro e w3 ⟨v3, rfl, ho, hb⟩
  have HB3 := Lib.hid (HB2.out.trans (hb.mono HB2.out.size))
  have HO3 := Lib.hid (HO2.out.below hb)
  have HP3 := Lib.hid (HP2.out.below hb)
  have HQ3 := Lib.hid ho
  have H3 := Lib.hid (nods_below H2.out hb)
  clear hb ho
  go_wp2_with fail
  refine (HD.out _ H3.out).mono ?_
  rintro e w4 ⟨v4, rfl, ho, hb⟩
  have HB4 := Lib.hid (HB3.out.trans (hb.mono HB3.out.size))
  have HO4 := Lib.hid (HO3.out.below hb)
  have HP4 := Lib.hid (HP3.out.below hb)
  have HQ4 := Lib.hid (HQ3.out.below hb)
  have HR4 := Lib.hid ho
  clear hb ho
  go_wp2_with fail
  refine (lawInts_eq _ _ _ _ _ _ HL1.out HO4.out HQ4.out).mono ?_
  rintro e w5 ⟨rfl, hb⟩
  have HB5 := Lib.hid (HB4.out.trans (hb.mono HB4.out.size))
  have HP5 := Lib.hid (HP4.out.below hb)
  have HR5 := Lib.hid (HR4.out.below hb)
  clear hb
  have q1 : (fe == fe) = true := by simp
  have q2 : (ne == ne) = true := by simp
  go_wp2_with fail
  refine (lawInts_eq _ _ _ _ _ _ HL2.out HP5.out HR5.out).mono ?_
  rintro e w6 ⟨rfl, hb⟩
  have HB6 := Lib.hid (HB5.out.trans (hb.mono HB5.out.size))
  clear hb
  go_wp2
  go_ret
  exact ⟨rfl, HB6.out⟩
end Go.Proofs.YtiiojjhfncefgaaDoor
