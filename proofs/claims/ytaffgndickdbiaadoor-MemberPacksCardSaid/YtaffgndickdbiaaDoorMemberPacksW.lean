/-
  The law MemberPacks, walked.
-/
import Derived.Test.YtaffgndickdbiaaDoorMemL
import Derived.Test.YtaffgndickdbiaaDoorMemHead
import Derived.Test.YtaffgndickdbiaaDoorRecsSame
import Derived.Test.YtaffgndickdbiaaDoorMaxOk
import Derived.Test.YtaffgndickdbiaaDoorLaid
namespace Go.Proofs.YtaffgndickdbiaaDoor
set_option linter.unusedVariables false
set_option linter.unusedSimpArgs false
open Go.Creel Go.RowKit
theorem pow10_laid_mp (w : World) (h : laidMetH Tryd.prog Rows.memberPacksRow.laid w) : Pow10 w := by
  obtain ⟨ps, hp, _⟩ := (show laidMet Tryd.prog Rows.memberPacksRow.laid w from h)
  exact tabIs_laid (g := 1) (t := 169) (e := 142) (n := 20) (by kernel_rfl) (by kernel_rfl) (by kernel_rfl) (by kernel_rfl) (by kernel_rfl) (by kernel_rfl) _ ps 2 hp rfl
set_option maxRecDepth 100000 in
set_option maxHeartbeats 2000000 in
theorem memberPacks_walk (w : World) (cs : List Value) (x : Ent) (h : EntC maxLen w cs x) (hsh : w.ShapedOpen Tryd.prog) (hL : laidMetH Tryd.prog Rows.memberPacksRow.laid w) :
    Calls Tryd.prog 8 #[.agg cs.toArray] w fun e w' => e = .returned (.bool true) ∧ Below w.heap.size w w' := by
  have HM := Lib.hid (maxOk_of w hsh)
  have HT := Lib.hid (pow10_laid_mp w hL)
  obtain ⟨rfl, hx⟩ := h
  have HX := Lib.hid hx
  have H1 := Lib.hid (fun W (hb : Below w.heap.size w W) => RecordsL_any x W (HM.out.below hb) (HX.out.below hb) (HT.out.below hb))
  have H2 := Lib.hid (fun W (hb : Below w.heap.size w W) => HeadL_any x W (HM.out.below hb) (HX.out.below hb) (HT.out.below hb))
  have H3 := Lib.hid (fun W (hb : Below w.heap.size w W) => MemRecs_any x W (HX.out.below hb) (HT.out.below hb))
  have H4 := Lib.hid (fun W (hb : Below w.heap.size w W) => MemHead_any x W (HX.out.below hb) (HT.out.below hb))
  have HBX := Lib.hid ((Below.refl w.heap.size w).alloc (Nat.le_refl _) (.cells #[.string x.path, .int .i64 x.kind, .string x.target, .int .i64 x.mt.mode, .int .i64 x.mt.uid, .int .i64 x.mt.gid, .string x.mt.user, .string x.mt.group, .int .i64 x.mt.second, .int .i64 x.mt.nano, .slice x.da x.data.length x.dcap] 40))
  have HEB := Lib.hid (entAt_box w x 40)
  clear hsh hL hx
  generalize recordsOf x = p at *
  generalize mHeadOf x = q at *
  obtain ⟨l, e1⟩ := p
  obtain ⟨hd, e2⟩ := q
  show Calls Tryd.prog 8 #[x.val] w _
  go_enter Tryd.func8, Tryd.ntmps8
  go_wp2_with fail
  refine (H1.out _ HBX.out).mono ?_
  rintro e w1 ⟨v1, rfl, ho, hb⟩
  have HB1 := Lib.hid (HBX.out.trans (hb.mono HBX.out.size))
  have HE1 := Lib.hid (HEB.out.below hb)
  have HO1 := Lib.hid ho
  clear hb ho
  obtain ⟨h0, h1, h2, h3, h4, h5, h6, h7, h8, h9, h10⟩ := HE1.out.zero
  go_wp2_with fail
  refine (H2.out _ HB1.out).mono ?_
  rintro e w2 ⟨rfl, hb⟩
  have HB2 := Lib.hid (HB1.out.trans (hb.mono HB1.out.size))
  have HE2 := Lib.hid (HE1.out.below hb)
  have HO2 := Lib.hid (HO1.out.below hb)
  clear hb h0 h1 h2 h3 h4 h5 h6 h7 h8 h9 h10 HE1 HO1 HB1
  go_upto_region 3 with fail
  have HD0 : Hid ((w2.alloc (.cells #[.string hd.nm, .string hd.px, .string hd.lk, .int .i64 hd.mode, .int .i64 hd.uid, .int .i64 hd.gid, .int .i64 hd.size, .int .i64 hd.time, .int .u8 hd.typ.toNat, .string hd.user, .string hd.group] 53)).heap[w2.heap.size]? = some (.cells (hcells hd) 53 (0, 0))) := Lib.hid (heap_alloc_new _ _)
  have HA := Lib.hid ((Below.refl w2.heap.size w2).alloc (Nat.le_refl _) (.cells #[.string hd.nm, .string hd.px, .string hd.lk, .int .i64 hd.mode, .int .i64 hd.uid, .int .i64 hd.gid, .int .i64 hd.size, .int .i64 hd.time, .int .u8 hd.typ.toNat, .string hd.user, .string hd.group] 53))
  have HB3 := Lib.hid (HB2.out.trans (HA.out.mono HB2.out.size))
  have HE3 := Lib.hid (HE2.out.below HA.out)
  have HO3 := Lib.hid (HO2.out.below HA.out)
  clear HA HB2 HE2 HO2
  generalize hb1 : w2.heap.size = b1 at *
  generalize w2.alloc (.cells #[.string hd.nm, .string hd.px, .string hd.lk, .int .i64 hd.mode, .int .i64 hd.uid, .int .i64 hd.gid, .int .i64 hd.size, .int .i64 hd.time, .int .u8 hd.typ.toNat, .string hd.user, .string hd.group] 53) = w3 at *
  clear hb1
  obtain ⟨h0, h1, h2, h3, h4, h5, h6, h7, h8, h9, h10⟩ := HE3.out.zero
  go_wp2_with fail
  refine (H3.out _ HB3.out).mono ?_
  rintro e w4 ⟨v4, rfl, ho, hb⟩
  have HB4 := Lib.hid (HB3.out.trans (hb.mono HB3.out.size))
  have HE4 := Lib.hid (HE3.out.below hb)
  have HO4 := Lib.hid (HO3.out.below hb)
  have HP4 := Lib.hid ho
  have HD4 := Lib.hid ((hb.block b1 (Array.getElem?_eq_some_iff.1 HD0.out).1).trans HD0.out)
  clear hb ho h0 h1 h2 h3 h4 h5 h6 h7 h8 h9 h10 HE3 HO3 HB3 HD0
  obtain ⟨h0, h1, h2, h3, h4, h5, h6, h7, h8, h9, h10⟩ := HE4.out.zero
  go_wp2_with fail
  refine (H4.out _ HB4.out).mono ?_
  rintro e w5 ⟨rfl, hb⟩
  have HB5 := Lib.hid (HB4.out.trans (hb.mono HB4.out.size))
  have HO5 := Lib.hid (HO4.out.below hb)
  have HP5 := Lib.hid (HP4.out.below hb)
  have HD5 := Lib.hid ((hb.block b1 (Array.getElem?_eq_some_iff.1 HD4.out).1).trans HD4.out)
  clear hb h0 h1 h2 h3 h4 h5 h6 h7 h8 h9 h10 HE4 HO4 HB4 HD4 HP4
  go_upto_region 5 with fail
  have HD6 : Hid ((w5.alloc (.cells #[.string hd.nm, .string hd.px, .string hd.lk, .int .i64 hd.mode, .int .i64 hd.uid, .int .i64 hd.gid, .int .i64 hd.size, .int .i64 hd.time, .int .u8 hd.typ.toNat, .string hd.user, .string hd.group] 53)).heap[w5.heap.size]? = some (.cells (hcells hd) 53 (0, 0))) := Lib.hid (heap_alloc_new _ _)
  have HA := Lib.hid ((Below.refl w5.heap.size w5).alloc (Nat.le_refl _) (.cells #[.string hd.nm, .string hd.px, .string hd.lk, .int .i64 hd.mode, .int .i64 hd.uid, .int .i64 hd.gid, .int .i64 hd.size, .int .i64 hd.time, .int .u8 hd.typ.toNat, .string hd.user, .string hd.group] 53))
  have HB6 := Lib.hid (HB5.out.trans (HA.out.mono HB5.out.size))
  have HO6 := Lib.hid (HO5.out.below HA.out)
  have HP6 := Lib.hid (HP5.out.below HA.out)
  have HC6 := Lib.hid ((HA.out.block b1 (Array.getElem?_eq_some_iff.1 HD5.out).1).trans HD5.out)
  clear HA HB5 HO5 HP5 HD5
  generalize hb2 : w5.heap.size = b2 at *
  generalize w5.alloc (.cells #[.string hd.nm, .string hd.px, .string hd.lk, .int .i64 hd.mode, .int .i64 hd.uid, .int .i64 hd.gid, .int .i64 hd.size, .int .i64 hd.time, .int .u8 hd.typ.toNat, .string hd.user, .string hd.group] 53) = w6 at *
  clear hb2
  go_wp2_with fail
  refine (SameRecs_any v1 v4 l _ _ _ HO6.out HP6.out).mono ?_
  rintro e w7 ⟨rfl, hb⟩
  have HB7 := Lib.hid (HB6.out.trans (hb.mono HB6.out.size))
  have HD7 := Lib.hid ((hb.block b2 (Array.getElem?_eq_some_iff.1 HD6.out).1).trans HD6.out)
  have HC7 := Lib.hid ((hb.block b1 (Array.getElem?_eq_some_iff.1 HC6.out).1).trans HC6.out)
  clear hb
  have c0 : w7.cell? ⟨b1, 0, none⟩ = some (.string hd.nm) := by rw [cell_of_row w7 b1 0 _ _ (0, 0) HC7.out]; rfl
  have d0 : w7.cell? ⟨b2, 0, none⟩ = some (.string hd.nm) := by rw [cell_of_row w7 b2 0 _ _ (0, 0) HD7.out]; rfl
  have c1 : w7.cell? ⟨b1, 1, none⟩ = some (.string hd.px) := by rw [cell_of_row w7 b1 1 _ _ (0, 0) HC7.out]; rfl
  have d1 : w7.cell? ⟨b2, 1, none⟩ = some (.string hd.px) := by rw [cell_of_row w7 b2 1 _ _ (0, 0) HD7.out]; rfl
  have c2 : w7.cell? ⟨b1, 2, none⟩ = some (.string hd.lk) := by rw [cell_of_row w7 b1 2 _ _ (0, 0) HC7.out]; rfl
  have d2 : w7.cell? ⟨b2, 2, none⟩ = some (.string hd.lk) := by rw [cell_of_row w7 b2 2 _ _ (0, 0) HD7.out]; rfl
  have c3 : w7.cell? ⟨b1, 3, none⟩ = some (.int .i64 hd.mode) := by rw [cell_of_row w7 b1 3 _ _ (0, 0) HC7.out]; rfl
  have d3 : w7.cell? ⟨b2, 3, none⟩ = some (.int .i64 hd.mode) := by rw [cell_of_row w7 b2 3 _ _ (0, 0) HD7.out]; rfl
  have c4 : w7.cell? ⟨b1, 4, none⟩ = some (.int .i64 hd.uid) := by rw [cell_of_row w7 b1 4 _ _ (0, 0) HC7.out]; rfl
  have d4 : w7.cell? ⟨b2, 4, none⟩ = some (.int .i64 hd.uid) := by rw [cell_of_row w7 b2 4 _ _ (0, 0) HD7.out]; rfl
  have c5 : w7.cell? ⟨b1, 5, none⟩ = some (.int .i64 hd.gid) := by rw [cell_of_row w7 b1 5 _ _ (0, 0) HC7.out]; rfl
  have d5 : w7.cell? ⟨b2, 5, none⟩ = some (.int .i64 hd.gid) := by rw [cell_of_row w7 b2 5 _ _ (0, 0) HD7.out]; rfl
  have c6 : w7.cell? ⟨b1, 6, none⟩ = some (.int .i64 hd.size) := by rw [cell_of_row w7 b1 6 _ _ (0, 0) HC7.out]; rfl
  have d6 : w7.cell? ⟨b2, 6, none⟩ = some (.int .i64 hd.size) := by rw [cell_of_row w7 b2 6 _ _ (0, 0) HD7.out]; rfl
  have c7 : w7.cell? ⟨b1, 7, none⟩ = some (.int .i64 hd.time) := by rw [cell_of_row w7 b1 7 _ _ (0, 0) HC7.out]; rfl
  have d7 : w7.cell? ⟨b2, 7, none⟩ = some (.int .i64 hd.time) := by rw [cell_of_row w7 b2 7 _ _ (0, 0) HD7.out]; rfl
  have c8 : w7.cell? ⟨b1, 8, none⟩ = some (.int .u8 hd.typ.toNat) := by rw [cell_of_row w7 b1 8 _ _ (0, 0) HC7.out]; rfl
  have d8 : w7.cell? ⟨b2, 8, none⟩ = some (.int .u8 hd.typ.toNat) := by rw [cell_of_row w7 b2 8 _ _ (0, 0) HD7.out]; rfl
  have c9 : w7.cell? ⟨b1, 9, none⟩ = some (.string hd.user) := by rw [cell_of_row w7 b1 9 _ _ (0, 0) HC7.out]; rfl
  have d9 : w7.cell? ⟨b2, 9, none⟩ = some (.string hd.user) := by rw [cell_of_row w7 b2 9 _ _ (0, 0) HD7.out]; rfl
  have c10 : w7.cell? ⟨b1, 10, none⟩ = some (.string hd.group) := by rw [cell_of_row w7 b1 10 _ _ (0, 0) HC7.out]; rfl
  have d10 : w7.cell? ⟨b2, 10, none⟩ = some (.string hd.group) := by rw [cell_of_row w7 b2 10 _ _ (0, 0) HD7.out]; rfl
  go_wp2
  go_ret
  exact ⟨rfl, HB7.out⟩
end Go.Proofs.YtaffgndickdbiaaDoor
