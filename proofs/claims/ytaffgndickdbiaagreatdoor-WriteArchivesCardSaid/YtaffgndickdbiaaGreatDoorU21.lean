/-
  Texts: WriteArchivesW.
-/
import Derived.Test.YtaffgndickdbiaaGreatDoorU20
set_option linter.unusedVariables false
set_option linter.unusedSimpArgs false
set_option linter.unusedSectionVars false
namespace Go.Creel
theorem arcOf_le (l : List Ent) : (arcOf l).1.length ≤ 2000000 := by
  by_cases h : entsFault l = 0
  · rw [arcOf_ok h]
    have h1 := arcTo_le h l.length
    rw [arcTo_all] at h1
    simp only [List.length_append, zeros1024_len]; omega
  · rw [arcOf_bad h]; simp
theorem placesOf_le (l : List Ent) : (placesOf l).1.length ≤ 8000000000 := by
  by_cases h : entsFault l = 0
  · rw [placesOf_ok h]
    have h1 := (entsFault_all h).1
    simp only [placeTo_len]; omega
  · rw [placesOf_bad h]; simp
end Go.Creel
namespace Go.Proofs.YtaffgndickdbiaaGreatDoor
open Go.Creel Go.RowKit
theorem pow10_laid_wa (w : World) (h : laidMetH Tryz.prog Rows.writeArchivesRow.laid w) : Pow10 w := by
  obtain ⟨ps, hp, _⟩ := (show laidMet Tryz.prog Rows.writeArchivesRow.laid w from h)
  exact tabIs_laid (g := 3) (t := 249) (e := 220) (n := 20) (by kernel_rfl) (by kernel_rfl) (by kernel_rfl) (by kernel_rfl) (by kernel_rfl) (by kernel_rfl) _ ps 2 hp rfl
set_option maxRecDepth 100000 in
set_option maxHeartbeats 2000000 in
theorem writeArchives_walk (w : World) (v : Value) (l : List Ent) (hl : SliceC maxLen 11 (EntC maxLen) w [v] l) (hsh : w.ShapedOpen Tryz.prog) (hL : laidMetH Tryz.prog Rows.writeArchivesRow.laid w) :
    Calls Tryz.prog 4 #[v] w fun e w' => e = .returned (.bool true) ∧ Below w.heap.size w w' := by
  have HM := Lib.hid (maxOk_of w hsh)
  have HT := Lib.hid (pow10_laid_wa w hL)
  have H := Lib.hid hl
  have H1 := Lib.hid (fun W (hb : Below w.heap.size w W) => ArchiveL_any v l W (HM.out.below hb) (HT.out.below hb) (ents_below H.out hb))
  have H2 := Lib.hid (fun W (hb : Below w.heap.size w W) => PlacesL_any v l W (HM.out.below hb) (HT.out.below hb) (ents_below H.out hb))
  have H3 := Lib.hid (fun W (hb : Below w.heap.size w W) => ArcR_any v l W (HM.out.below hb) (HT.out.below hb) (ents_below H.out hb))
  have H4 := Lib.hid (fun W (hb : Below w.heap.size w W) => ArcPlacesR_any v l W (HM.out.below hb) (HT.out.below hb) (ents_below H.out hb))
  have HL1 := Lib.hid (arcOf_le l)
  have HL2 := Lib.hid (placesOf_le l)
  clear hsh hL hl
  generalize arcOf l = p at *
  generalize placesOf l = q at *
  obtain ⟨pl, pe⟩ := p
  obtain ⟨ql, qe⟩ := q
  go_enter Tryz.func4, Tryz.ntmps4
  go_wp2_with fail
  refine (H1.out _ (Below.refl _ _)).mono ?_
  rintro e w1 ⟨v1, rfl, ho, hb⟩
  have HB1 := Lib.hid hb
  have HO1 := Lib.hid ho
  clear hb ho
  go_wp2_with fail
  refine (H2.out _ HB1.out).mono ?_
  rintro e w2 ⟨v2, rfl, ho, hb⟩
  have HB2 := Lib.hid (HB1.out.trans (hb.mono HB1.out.size))
  have HO2 := Lib.hid (HO1.out.below hb)
  have HP2 := Lib.hid ho
  clear hb ho
  go_wp2_with fail
  refine (H3.out _ HB2.out).mono ?_
  rintro e w3 ⟨v3, rfl, ho, hb⟩
  have HB3 := Lib.hid (HB2.out.trans (hb.mono HB2.out.size))
  have HO3 := Lib.hid (HO2.out.below hb)
  have HP3 := Lib.hid (HP2.out.below hb)
  have HQ3 := Lib.hid ho
  clear hb ho
  go_wp2_with fail
  refine (H4.out _ HB3.out).mono ?_
  rintro e w4 ⟨v4, rfl, ho, hb⟩
  have HB4 := Lib.hid (HB3.out.trans (hb.mono HB3.out.size))
  have HS1 := Lib.hid ((HO3.out.below hb).slice (N := maxLen) (Nat.le_trans HL1.out (by decide)))
  have HS3 := Lib.hid ((HQ3.out.below hb).slice (N := maxLen) (Nat.le_trans HL1.out (by decide)))
  have HP4 := Lib.hid (HP3.out.below hb)
  have HR4 := Lib.hid ho
  clear hb ho
  go_wp2_with fail
  refine (sameBytes_eq _ _ _ _ HS1.out HS3.out).mono ?_
  rintro e w5 ⟨rfl, rfl⟩
  go_wp2_with fail
  refine (lawInts_eq _ _ _ _ _ _ HL2.out HP4.out HR4.out).mono ?_
  rintro e w6 ⟨rfl, hb⟩
  have HB6 := Lib.hid (HB4.out.trans (hb.mono HB4.out.size))
  clear hb
  go_wp2
  go_ret
  exact ⟨rfl, HB6.out⟩
end Go.Proofs.YtaffgndickdbiaaGreatDoor
