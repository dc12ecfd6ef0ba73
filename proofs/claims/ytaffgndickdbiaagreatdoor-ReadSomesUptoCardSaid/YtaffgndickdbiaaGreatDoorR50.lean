/-
  Texts: ReadSomesW.
-/
import Derived.Test.YtaffgndickdbiaaGreatDoorR49
set_option linter.unusedVariables false
set_option linter.unusedSimpArgs false
set_option linter.unusedSectionVars false
namespace Go.Proofs.YtaffgndickdbiaaGreatDoor
open Go.Creel Go.RowKit
theorem laid_rs (w : World) (h : laidMetH Tryz.prog Rows.readSomesUptoRow.laid w) : Pow10 w ∧ ErrsOk w := by
  obtain ⟨ps, hp, _⟩ := (show laidMet Tryz.prog Rows.readSomesUptoRow.laid w from h)
  exact ⟨tabIs_laid (g := 3) (t := 249) (e := 220) (n := 20) (by kernel_rfl) (by kernel_rfl) (by kernel_rfl) (by kernel_rfl) (by kernel_rfl) (by kernel_rfl) _ ps 2 hp rfl,
    errAt_laid (name := "strconv.ErrSyntax") (t := 88) (by kernel_rfl) (by kernel_rfl) Tryz.underlying88 _ ps 5 hp rfl, errAt_laid (name := "strconv.ErrRange") (t := 88) (by kernel_rfl) (by kernel_rfl) Tryz.underlying88 _ ps 4 hp rfl⟩
set_option maxRecDepth 100000 in
set_option maxHeartbeats 2000000 in
theorem readSomes_walk (w : World) (v : Value) (b : List UInt8) (h : SliceC 1048576 1 ByteC w [v] b) (s : ByteArray) (_hs : s.size ≤ 1048576) (hsh : w.ShapedOpen Tryz.prog) (hL : laidMetH Tryz.prog Rows.readSomesUptoRow.laid w) :
    Calls Tryz.prog 7 #[v, .string s] w fun e w' => e = .returned (.bool true) ∧ Below w.heap.size w w' := by
  have HM := Lib.hid (maxOk_of w hsh)
  have HL := Lib.hid (laid_rs w hL)
  obtain ⟨hw, hbl⟩ := bytes_wide h
  have H1 := Lib.hid (fun W (hb : Below w.heap.size w W) => SomeL_any v b W (bytesBelow hw hb) hbl (HM.out.below hb) (HL.out.2.below hb) (HL.out.1.below hb))
  have H2 := Lib.hid (fun W (hb : Below w.heap.size w W) => FindL_any v b s W (bytesBelow hw hb) hbl (HM.out.below hb) (HL.out.2.below hb) (HL.out.1.below hb))
  have H3 := Lib.hid (fun W (hb : Below w.heap.size w W) => SomeR_any v b W (bytesBelow hw hb) hbl (HM.out.below hb) (HL.out.2.below hb) (HL.out.1.below hb))
  have H4 := Lib.hid (fun W (hb : Below w.heap.size w W) => FindR_any v b s W (bytesBelow hw hb) hbl (HM.out.below hb) (HL.out.2.below hb) (HL.out.1.below hb))
  clear hsh hL h hw hbl
  generalize someOf b = p at *
  generalize findIn b s = q at *
  obtain ⟨l, k, e0⟩ := p
  obtain ⟨y, e2⟩ := q
  go_enter Tryz.func7, Tryz.ntmps7
  go_wp2_with fail
  refine (H1.out _ (Below.refl _ _)).mono ?_
  rintro e w1 ⟨v1, c1, rfl, ho, hc, hn, _, hb⟩
  have HB1 := Lib.hid hb
  have HO1 := Lib.hid ho
  have HC1 := Lib.hid hc
  have HN1 := Lib.hid hn
  clear ho hc hb hn
  go_wp2_with fail
  refine (H2.out _ HB1.out).mono ?_
  rintro e w2 ⟨x1, rfl, hx, hxo, hb⟩
  have HB2 := Lib.hid (HB1.out.trans (hb.mono HB1.out.size))
  have HO2 := Lib.hid (HO1.out.below hb)
  have HX1 := Lib.hid hx
  have HXO := Lib.hid hxo
  clear hx hxo hb
  go_upto_region 3 with fail
  have HA := Lib.hid ((Below.refl w2.heap.size w2).alloc (Nat.le_refl _) (.cells #[.string x1.path, .int .i64 x1.kind, .string x1.target, .int .i64 x1.mt.mode, .int .i64 x1.mt.uid, .int .i64 x1.mt.gid, .string x1.mt.user, .string x1.mt.group, .int .i64 x1.mt.second, .int .i64 x1.mt.nano, .slice x1.da x1.data.length x1.dcap] 26))
  have HR3 : Hid ((w2.alloc (.cells #[.string x1.path, .int .i64 x1.kind, .string x1.target, .int .i64 x1.mt.mode, .int .i64 x1.mt.uid, .int .i64 x1.mt.gid, .string x1.mt.user, .string x1.mt.group, .int .i64 x1.mt.second, .int .i64 x1.mt.nano, .slice x1.da x1.data.length x1.dcap] 26)).heap[w2.heap.size]? = some (.cells #[.string x1.path, .int .i64 x1.kind, .string x1.target, .int .i64 x1.mt.mode, .int .i64 x1.mt.uid, .int .i64 x1.mt.gid, .string x1.mt.user, .string x1.mt.group, .int .i64 x1.mt.second, .int .i64 x1.mt.nano, .slice x1.da x1.data.length x1.dcap] 26 (0, 0))) := Lib.hid (heap_alloc_new _ _)
  have HB3 := Lib.hid (HB2.out.trans (HA.out.mono HB2.out.size))
  have HO3 := Lib.hid (HO2.out.below HA.out)
  have HXO3 := Lib.hid (HXO.out.below HA.out)
  generalize w2.heap.size = bx at *
  generalize w2.alloc (.cells #[.string x1.path, .int .i64 x1.kind, .string x1.target, .int .i64 x1.mt.mode, .int .i64 x1.mt.uid, .int .i64 x1.mt.gid, .string x1.mt.user, .string x1.mt.group, .int .i64 x1.mt.second, .int .i64 x1.mt.nano, .slice x1.da x1.data.length x1.dcap] 26) = w3 at *
  clear HA HB2 HO2 HXO HB1 HO1
  go_wp2_with fail
  refine (H3.out _ HB3.out).mono ?_
  rintro e w4 ⟨v2, c2, rfl, ho, hc, hn, _, hb⟩
  have HB4 := Lib.hid (HB3.out.trans (hb.mono HB3.out.size))
  have HR4 := Lib.hid ((hb.block _ (Array.getElem?_eq_some_iff.1 HR3.out).1).trans HR3.out)
  have HO4 := Lib.hid (HO3.out.below hb)
  have HXO4 := Lib.hid (HXO3.out.below hb)
  have HP4 := Lib.hid ho
  have HC2 := Lib.hid hc
  have HN2 := Lib.hid hn
  clear ho hc hb hn HB3 HR3 HO3 HXO3
  go_wp2_with fail
  refine (H4.out _ HB4.out).mono ?_
  rintro e w5 ⟨x2, rfl, hx, hxo, hb⟩
  have HB5 := Lib.hid (HB4.out.trans (hb.mono HB4.out.size))
  have HR5 := Lib.hid ((hb.block _ (Array.getElem?_eq_some_iff.1 HR4.out).1).trans HR4.out)
  have HO5 := Lib.hid (HO4.out.below hb)
  have HP5 := Lib.hid (HP4.out.below hb)
  have HXO5 := Lib.hid (HXO4.out.below hb)
  have HX2 := Lib.hid hx
  have HXP := Lib.hid hxo
  clear hx hxo hb HB4 HR4 HO4 HP4 HXO4
  go_upto_region 5 with fail
  have HA := Lib.hid ((Below.refl w5.heap.size w5).alloc (Nat.le_refl _) (.cells #[.string x2.path, .int .i64 x2.kind, .string x2.target, .int .i64 x2.mt.mode, .int .i64 x2.mt.uid, .int .i64 x2.mt.gid, .string x2.mt.user, .string x2.mt.group, .int .i64 x2.mt.second, .int .i64 x2.mt.nano, .slice x2.da x2.data.length x2.dcap] 26))
  have HS6 : Hid ((w5.alloc (.cells #[.string x2.path, .int .i64 x2.kind, .string x2.target, .int .i64 x2.mt.mode, .int .i64 x2.mt.uid, .int .i64 x2.mt.gid, .string x2.mt.user, .string x2.mt.group, .int .i64 x2.mt.second, .int .i64 x2.mt.nano, .slice x2.da x2.data.length x2.dcap] 26)).heap[w5.heap.size]? = some (.cells #[.string x2.path, .int .i64 x2.kind, .string x2.target, .int .i64 x2.mt.mode, .int .i64 x2.mt.uid, .int .i64 x2.mt.gid, .string x2.mt.user, .string x2.mt.group, .int .i64 x2.mt.second, .int .i64 x2.mt.nano, .slice x2.da x2.data.length x2.dcap] 26 (0, 0))) := Lib.hid (heap_alloc_new _ _)
  have HR6 := Lib.hid ((HA.out.block _ (Array.getElem?_eq_some_iff.1 HR5.out).1).trans HR5.out)
  have HB6 := Lib.hid (HB5.out.trans (HA.out.mono HB5.out.size))
  have HO6 := Lib.hid (HO5.out.below HA.out)
  have HP6 := Lib.hid (HP5.out.below HA.out)
  have HXO6 := Lib.hid (HXO5.out.below HA.out)
  have HXP6 := Lib.hid (HXP.out.below HA.out)
  generalize w5.heap.size = by2 at *
  generalize w5.alloc (.cells #[.string x2.path, .int .i64 x2.kind, .string x2.target, .int .i64 x2.mt.mode, .int .i64 x2.mt.uid, .int .i64 x2.mt.gid, .string x2.mt.user, .string x2.mt.group, .int .i64 x2.mt.second, .int .i64 x2.mt.nano, .slice x2.da x2.data.length x2.dcap] 26) = w6 at *
  clear HA HB5 HR5 HO5 HP5 HXO5 HXP
  have HSM := Lib.hid (SameEnts_eq _ _ c1 c2 w6 (HC1.out.trans HC2.out.symm) (HO6.out.slice (Nat.le_trans HN1.out (by unfold maxLen; decide))) (HP6.out.slice (Nat.le_trans HN2.out (by unfold maxLen; decide))))
  have q1 : ((k : Int) == (k : Int)) = true := by simp
  have q2 : (e0 == e0) = true := by simp
  have q3 : (e2 == e2) = true := by simp
  go_wp2_with fail
  refine HSM.out.mono ?_
  rintro e w7 ⟨rfl, hb⟩
  have HB7 := Lib.hid (HB6.out.trans (hb.mono HB6.out.size))
  have HR7 := Lib.hid ((hb.block _ (Array.getElem?_eq_some_iff.1 HR6.out).1).trans HR6.out)
  have HS7 := Lib.hid ((hb.block _ (Array.getElem?_eq_some_iff.1 HS6.out).1).trans HS6.out)
  have HSE := Lib.hid (SameEnt_eq x1 x2 w7 (HX1.out.trans HX2.out.symm) (HXO6.out.below hb) (HXP6.out.below hb))
  clear hb HSM
  obtain ⟨a0, a1, a2, a3, a4, a5, a6, a7, a8, a9, a10⟩ := cells11 HR7.out
  obtain ⟨b0, b1, b2, b3, b4, b5, b6, b7, b8, b9, b10⟩ := cells11 HS7.out
  go_wp2_with fail
  refine HSE.out.mono ?_
  rintro e w8 ⟨rfl, hb⟩
  have HB8 := Lib.hid (HB7.out.trans (hb.mono HB7.out.size))
  clear hb
  go_wp2
  go_ret
  exact ⟨rfl, HB8.out⟩
end Go.Proofs.YtaffgndickdbiaaGreatDoor
