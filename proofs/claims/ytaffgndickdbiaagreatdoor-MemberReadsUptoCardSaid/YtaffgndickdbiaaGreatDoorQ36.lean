/-
  Texts: MemberReadsW.
-/
import Derived.Test.YtaffgndickdbiaaGreatDoorQ25
import Derived.Test.YtaffgndickdbiaaGreatDoorQ34
import Derived.Test.YtaffgndickdbiaaGreatDoorQ35
set_option linter.unusedVariables false
set_option linter.unusedSimpArgs false
set_option linter.unusedSectionVars false
namespace Go.Proofs.YtaffgndickdbiaaGreatDoor
open Go.Creel Go.RowKit
theorem pow10_laid_mr (w : World) (h : laidMetH Tryz.prog Rows.memberReadsUptoRow.laid w) : Pow10 w ∧ ErrsOk w := by
 obtain ⟨ps,hp,_⟩:=(show laidMet Tryz.prog Rows.memberReadsUptoRow.laid w from h)
 exact ⟨tabIs_laid (g:=3) (t:=249) (e:=220) (n:=20) (by kernel_rfl) (by kernel_rfl) (by kernel_rfl) (by kernel_rfl) (by kernel_rfl) (by kernel_rfl) _ ps 2 hp rfl,
  errAt_laid (name := "strconv.ErrSyntax") (t:=88) (by kernel_rfl) (by kernel_rfl) Tryz.underlying88 _ ps 5 hp rfl,errAt_laid (name := "strconv.ErrRange") (t:=88) (by kernel_rfl) (by kernel_rfl) Tryz.underlying88 _ ps 4 hp rfl⟩
set_option maxRecDepth 100000 in
set_option maxHeartbeats 2000000 in
theorem memberReads_walk (w : World) (v : Value) (b : List UInt8) (h : SliceC 1048576 1 ByteC w [v] b) (hsh : w.ShapedOpen Tryz.prog) (hL : laidMetH Tryz.prog Rows.memberReadsUptoRow.laid w) :
 Calls Tryz.prog 5 #[v] w fun e w'=>e = .returned (.bool true)/\Below w.heap.size w w':=by
 have HM:=Lib.hid (maxOk_of w hsh)
 have HL:=Lib.hid (pow10_laid_mr w hL)
 obtain ⟨hw,hbl⟩:=bytes_wide h
 have H1:=Lib.hid (fun W (hb:Below w.heap.size w W)=>MemRd_any v b W (bytesBelow hw hb) hbl (HM.out.below hb) (HL.out.2.below hb) (HL.out.1.below hb))
 have H2:=Lib.hid (fun W (hb:Below w.heap.size w W)=>MemO_any v b W (bytesBelow hw hb) hbl (HL.out.2.below hb) (HL.out.1.below hb))
 clear hsh hL h hw hbl
 generalize memOf b=p at *
 obtain ⟨y,n,e0⟩:=p
 go_enter Tryz.func5,Tryz.ntmps5
 go_wp2_with fail
 refine (H1.out _ (Below.refl _ _)).mono ?_
 rintro e w1 ⟨x1,rfl,hx1,hb1⟩
 have HB1:=Lib.hid hb1
 have HX1:=Lib.hid hx1
 clear hb1 hx1
 go_upto_region 2 with fail
 have HA:=Lib.hid ((Below.refl w1.heap.size w1).alloc (Nat.le_refl _) (.cells #[.string x1.path,.int .i64 x1.kind,.string x1.target,.int .i64 x1.mt.mode,.int .i64 x1.mt.uid,.int .i64 x1.mt.gid,.string x1.mt.user,.string x1.mt.group,.int .i64 x1.mt.second,.int .i64 x1.mt.nano,.slice x1.da x1.data.length x1.dcap] 26))
 have HR2:Hid ((w1.alloc (.cells #[.string x1.path,.int .i64 x1.kind,.string x1.target,.int .i64 x1.mt.mode,.int .i64 x1.mt.uid,.int .i64 x1.mt.gid,.string x1.mt.user,.string x1.mt.group,.int .i64 x1.mt.second,.int .i64 x1.mt.nano,.slice x1.da x1.data.length x1.dcap] 26)).heap[w1.heap.size]?=some (.cells #[.string x1.path,.int .i64 x1.kind,.string x1.target,.int .i64 x1.mt.mode,.int .i64 x1.mt.uid,.int .i64 x1.mt.gid,.string x1.mt.user,.string x1.mt.group,.int .i64 x1.mt.second,.int .i64 x1.mt.nano,.slice x1.da x1.data.length x1.dcap] 26 (0,0))):=Lib.hid (heap_alloc_new _ _)
 have HB2:=Lib.hid (HB1.out.trans (HA.out.mono HB1.out.size))
 have HO2:=Lib.hid (HX1.out.2.1.below HA.out)
 generalize w1.heap.size=bx at *
 generalize w1.alloc (.cells #[.string x1.path,.int .i64 x1.kind,.string x1.target,.int .i64 x1.mt.mode,.int .i64 x1.mt.uid,.int .i64 x1.mt.gid,.string x1.mt.user,.string x1.mt.group,.int .i64 x1.mt.second,.int .i64 x1.mt.nano,.slice x1.da x1.data.length x1.dcap] 26)=w2 at *
 clear HA HB1
 go_wp2_with fail
 refine (H2.out _ HB2.out).mono ?_
 rintro e w3 ⟨x2,rfl,hx2,hb3⟩
 have HR3:=Lib.hid ((hb3.block _ (Array.getElem?_eq_some_iff.1 HR2.out).1).trans HR2.out)
 have HB3:=Lib.hid (HB2.out.trans (hb3.mono HB2.out.size))
 have HO3:=Lib.hid (HO2.out.below hb3)
 have HX2:=Lib.hid hx2
 clear hb3 hx2 HB2 HR2 HO2
 go_upto_region 3 with fail
 have HA:=Lib.hid ((Below.refl w3.heap.size w3).alloc (Nat.le_refl _) (.cells #[.string x2.path,.int .i64 x2.kind,.string x2.target,.int .i64 x2.mt.mode,.int .i64 x2.mt.uid,.int .i64 x2.mt.gid,.string x2.mt.user,.string x2.mt.group,.int .i64 x2.mt.second,.int .i64 x2.mt.nano,.slice x2.da x2.data.length x2.dcap] 26))
 have HS4:Hid ((w3.alloc (.cells #[.string x2.path,.int .i64 x2.kind,.string x2.target,.int .i64 x2.mt.mode,.int .i64 x2.mt.uid,.int .i64 x2.mt.gid,.string x2.mt.user,.string x2.mt.group,.int .i64 x2.mt.second,.int .i64 x2.mt.nano,.slice x2.da x2.data.length x2.dcap] 26)).heap[w3.heap.size]?=some (.cells #[.string x2.path,.int .i64 x2.kind,.string x2.target,.int .i64 x2.mt.mode,.int .i64 x2.mt.uid,.int .i64 x2.mt.gid,.string x2.mt.user,.string x2.mt.group,.int .i64 x2.mt.second,.int .i64 x2.mt.nano,.slice x2.da x2.data.length x2.dcap] 26 (0,0))):=Lib.hid (heap_alloc_new _ _)
 have HR4:=Lib.hid ((HA.out.block _ (Array.getElem?_eq_some_iff.1 HR3.out).1).trans HR3.out)
 have HB4:=Lib.hid (HB3.out.trans (HA.out.mono HB3.out.size))
 have HO4:=Lib.hid (HO3.out.below HA.out)
 have HP4:=Lib.hid (HX2.out.2.1.below HA.out)
 generalize w3.heap.size=by2 at *
 generalize w3.alloc (.cells #[.string x2.path,.int .i64 x2.kind,.string x2.target,.int .i64 x2.mt.mode,.int .i64 x2.mt.uid,.int .i64 x2.mt.gid,.string x2.mt.user,.string x2.mt.group,.int .i64 x2.mt.second,.int .i64 x2.mt.nano,.slice x2.da x2.data.length x2.dcap] 26)=w4 at *
 clear HA HB3 HR3 HO3
 obtain ⟨a0,a1,a2,a3,a4,a5,a6,a7,a8,a9,a10⟩:=cells11 HR4.out
 obtain ⟨b0,b1,b2,b3,b4,b5,b6,b7,b8,b9,b10⟩:=cells11 HS4.out
 have HSE:=Lib.hid (SameEnt_eq x1 x2 w4 (HX1.out.1.trans HX2.out.1.symm) HO4.out HP4.out)
 have q1:(n==n)=true:=by simp
 have q2:(e0==e0)=true:=by simp
 go_wp2_with fail
 refine HSE.out.mono ?_
 rintro e w5 ⟨rfl,hb5⟩
 have HB5:=Lib.hid (HB4.out.trans (hb5.mono HB4.out.size))
 clear hb5
 go_wp2
 go_ret
 exact ⟨rfl,HB5.out⟩
end Go.Proofs.YtaffgndickdbiaaGreatDoor
