/-
  The law ListLines, walked.
-/
import Derived.Test.YtaffgndickdbiaaDoorLines
import Derived.Test.YtaffgndickdbiaaDoorSameTexts
import Derived.Test.YtaffgndickdbiaaDoorMaxOk
import Derived.Test.YtaffgndickdbiaaDoorLaid
namespace Go.Creel
theorem linesOf_len (l : List Ent) : (linesOf l).1.length ≤ 8000000000 := by
  by_cases h : entsFault l = 0
  · rw [linesOf_ok h]; have := (entsFault_all h).1; have := linesL_len l l.length; simp only; omega
  · rw [linesOf_bad h]; simp
end Go.Creel
namespace Go.Proofs.YtaffgndickdbiaaDoor
set_option linter.unusedVariables false
open Go.Creel Go.RowKit
set_option maxRecDepth 100000 in
set_option maxHeartbeats 1000000 in
theorem listLines_walk (w : World) (cs : List Value) (x : Ent) (h : EntC maxLen w cs x) (v : Value) (l : List Ent) (hl : SliceC maxLen 11 (EntC maxLen) w [v] l) (hsh : w.ShapedOpen Tryd.prog) (hL : laidMetH Tryd.prog Rows.listLinesRow.laid w) :
    Calls Tryd.prog 7 #[.agg cs.toArray, v] w fun e w' => e = .returned (.bool true) ∧ Below w.heap.size w w' := by
  have HM := Lib.hid (maxOk_of w hsh)
  have HT := Lib.hid (pow10_laid_ll w hL)
  have HLN := Lib.hid (linesOf_len l)
  have H := Lib.hid hl
  obtain ⟨rfl, hx⟩ := h
  have HX := Lib.hid hx
  have HL1 := Lib.hid (fun W (hb : Below w.heap.size w W) => LineL_any x W (HM.out.below hb) (HX.out.below hb) (HT.out.below hb))
  have HL2 := Lib.hid (fun W (hb : Below w.heap.size w W) => AllL_any v l W (HM.out.below hb) (HT.out.below hb) (ents_below H.out hb))
  have HR1 := Lib.hid (fun W (hb : Below w.heap.size w W) => LineR_any x W (HX.out.below hb) (HT.out.below hb))
  have HR2 := Lib.hid (fun W (hb : Below w.heap.size w W) => LinesR_any v l W (HM.out.below hb) (HT.out.below hb) (ents_below H.out hb))
  have HBX := Lib.hid ((Below.refl w.heap.size w).alloc (Nat.le_refl _) (.cells #[.string x.path, .int .i64 x.kind, .string x.target, .int .i64 x.mt.mode, .int .i64 x.mt.uid, .int .i64 x.mt.gid, .string x.mt.user, .string x.mt.group, .int .i64 x.mt.second, .int .i64 x.mt.nano, .slice x.da x.data.length x.dcap] 40))
  have HEB := Lib.hid (entAt_box w x 40)
  clear hsh hL hx hl
  generalize linesOf l = p at *
  generalize lineOf x = q at *
  obtain ⟨fl, fe⟩ := p
  obtain ⟨q1, q2⟩ := q
  show Calls Tryd.prog 7 #[x.val, v] w _
  go_enter Tryd.func7, Tryd.ntmps7
  go_wp2_with fail
  refine (HL1.out _ HBX.out).mono ?_
  rintro e w1 ⟨rfl, hb⟩
  have HB1 := Lib.hid (HBX.out.trans (hb.mono HBX.out.size))
  have HE1 := Lib.hid (HEB.out.below hb)
  clear hb
  go_wp2_with fail
  refine (HL2.out _ HB1.out).mono ?_
  rintro e w2 ⟨v2, rfl, ho, hb⟩
  have HB2 := Lib.hid (HB1.out.trans (hb.mono HB1.out.size))
  have HE2 := Lib.hid (HE1.out.below hb)
  have HO2 := Lib.hid ho
  clear hb ho
  obtain ⟨h0, h1, h2, h3, h4, h5, h6, h7, h8, h9, h10⟩ := HE2.out.zero
  go_wp2_with fail
  refine (HR1.out _ HB2.out).mono ?_
  rintro e w3 ⟨rfl, hb⟩
  have HB3 := Lib.hid (HB2.out.trans (hb.mono HB2.out.size))
  have HO3 := Lib.hid (HO2.out.below hb)
  clear hb h0 h1 h2 h3 h4 h5 h6 h7 h8 h9 h10
  go_wp2_with fail
  refine (HR2.out _ HB3.out).mono ?_
  rintro e w4 ⟨v4, rfl, ho, hb⟩
  have HB4 := Lib.hid (HB3.out.trans (hb.mono HB3.out.size))
  have HO4 := Lib.hid (HO3.out.below hb)
  have HP4 := Lib.hid ho
  clear hb ho
  go_wp2_with fail
  refine (lawTexts_eq _ _ _ v2 v4 fl HLN.out HO4.out HP4.out).mono ?_
  rintro e w5 ⟨rfl, hb⟩
  have HB5 := Lib.hid (HB4.out.trans (hb.mono HB4.out.size))
  clear hb
  go_wp2
  go_ret
  exact ⟨rfl, HB5.out⟩
end Go.Proofs.YtaffgndickdbiaaDoor
