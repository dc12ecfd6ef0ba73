/-
  Texts: ReadArchivesW.
-/
import Derived.Test.YtaffgndickdbiaaGreatDoorQ39
set_option linter.unusedVariables false
set_option linter.unusedSimpArgs false
set_option linter.unusedSectionVars false
namespace Go.Creel
theorem arcIn_len (b : List UInt8) : (arcIn b).1.length ≤ 40 := by
 unfold arcIn
 split
 ·simp
 ·split
  ·simp
  ·split
   ·simp
   ·rename_i h
    rcases Nat.lt_or_ge 40 (someOf b).1.length with h2|h2
    ·exact absurd (entsFault_many h2) (by intro e;exact h (by rw [e];decide))
    ·exact h2
end Go.Creel
namespace Go.Proofs.YtaffgndickdbiaaGreatDoor
open Go.Creel Go.RowKit
theorem laid_ra (w : World) (h : laidMetH Tryz.prog Rows.readArchivesUptoRow.laid w) : Pow10 w ∧ ErrsOk w := by
 obtain ⟨ps,hp,_⟩:=(show laidMet Tryz.prog Rows.readArchivesUptoRow.laid w from h)
 exact ⟨tabIs_laid (g:=3) (t:=249) (e:=220) (n:=20) (by kernel_rfl) (by kernel_rfl) (by kernel_rfl) (by kernel_rfl) (by kernel_rfl) (by kernel_rfl) _ ps 2 hp rfl,
  errAt_laid (name := "strconv.ErrSyntax") (t:=88) (by kernel_rfl) (by kernel_rfl) Tryz.underlying88 _ ps 5 hp rfl,errAt_laid (name := "strconv.ErrRange") (t:=88) (by kernel_rfl) (by kernel_rfl) Tryz.underlying88 _ ps 4 hp rfl⟩
set_option maxRecDepth 100000 in
set_option maxHeartbeats 2000000 in
theorem readArchives_walk (w : World) (v : Value) (b : List UInt8) (h : SliceC 1048576 1 ByteC w [v] b) (hsh : w.ShapedOpen Tryz.prog) (hL : laidMetH Tryz.prog Rows.readArchivesUptoRow.laid w) :
 Calls Tryz.prog 6 #[v] w fun e w'=>e = .returned (.bool true)/\Below w.heap.size w w':=by
 have HM:=Lib.hid (maxOk_of w hsh)
 have HL:=Lib.hid (laid_ra w hL)
 obtain ⟨hw,hbl⟩:=bytes_wide h
 have H1:=Lib.hid (fun W (hb:Below w.heap.size w W)=>ArcIn_any v b W (bytesBelow hw hb) hbl (HM.out.below hb) (HL.out.2.below hb) (HL.out.1.below hb))
 have H2:=Lib.hid (fun W (hb:Below w.heap.size w W)=>ArcOf_any v b W (bytesBelow hw hb) hbl (HM.out.below hb) (HL.out.2.below hb) (HL.out.1.below hb))
 have HLN:=Lib.hid (arcIn_len b)
 clear hsh hL h hw hbl
 generalize arcIn b=p at *
 obtain ⟨l,e0⟩:=p
 go_enter Tryz.func6,Tryz.ntmps6
 go_wp2_with fail
 refine (H1.out _ (Below.refl _ _)).mono ?_
 rintro e w1 ⟨v1,c1,rfl,ho,hc,_,hb⟩
 have HB1:=Lib.hid hb
 have HO1:=Lib.hid ho
 have HC1:=Lib.hid hc
 clear ho hc hb
 go_wp2_with fail
 refine (H2.out _ HB1.out).mono ?_
 rintro e w2 ⟨v2,c2,rfl,ho,hc,_,hb⟩
 have HB2:=Lib.hid (HB1.out.trans (hb.mono HB1.out.size))
 have HO2:=Lib.hid (HO1.out.below hb)
 have HP2:=Lib.hid ho
 have HCC:=Lib.hid (HC1.out.trans hc.symm)
 have HN1:=Lib.hid (show c1.length<=maxLen by rw [bareE_len HC1.out];exact Nat.le_trans HLN.out (by unfold maxLen;decide))
 have HN2:=Lib.hid (show c2.length<=maxLen by rw [bareE_len hc];exact Nat.le_trans HLN.out (by unfold maxLen;decide))
 clear hb ho hc
 have q1:(e0==e0)=true:=by simp
 go_wp2_with fail
 refine (SameEnts_eq _ _ c1 c2 _ HCC.out (HO2.out.slice HN1.out) (HP2.out.slice HN2.out)).mono ?_
 rintro e w3 ⟨rfl,hb⟩
 have HB3:=Lib.hid (HB2.out.trans (hb.mono HB2.out.size))
 clear hb
 go_wp2
 go_ret
 exact ⟨rfl,HB3.out⟩
end Go.Proofs.YtaffgndickdbiaaGreatDoor
