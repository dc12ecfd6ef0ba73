/-
  member.Records and member.Head, walked.
-/
import Derived.Test.YtaffgndickdbiaaDoorPackL
import Derived.Test.YtaffgndickdbiaaDoorRecG
namespace Go.Proofs.YtaffgndickdbiaaDoor
set_option linter.unusedVariables false
set_option linter.unusedSimpArgs false
open Go.Creel Go.RowKit
set_option maxRecDepth 100000 in
set_option maxHeartbeats 1000000 in
theorem RecordsL_ok (x : Ent) (w : World) (hM : MaxOk w) (hx : x.Ok maxLen w) (hE : entFault x = 0) (hT : Pow10 w) :
    Calls Tryd.prog 24 #[x.val] w (RetRecs tRecE w (memRecs x, 0)) := by
  have HR := Lib.hid (entRight hE)
  have HBX := Lib.hid ((Below.refl w.heap.size w).alloc (Nat.le_refl _) (.cells #[.string x.path, .int .i64 x.kind, .string x.target, .int .i64 x.mt.mode, .int .i64 x.mt.uid, .int .i64 x.mt.gid, .string x.mt.user, .string x.mt.group, .int .i64 x.mt.second, .int .i64 x.mt.nano, .slice x.da x.data.length x.dcap] 40))
  have HEB := Lib.hid (entAt_box w x 40)
  have HPR := Lib.hid (fun W hb => PlanRight_any x W (hM.below (w' := W) hb) hx.path hx.target hx.mt (by obtain ⟨_, _, _, _, _, h, _⟩ := hx.data; exact h) hx.kind (Nat.le_refl _))
  rw [hE] at HPR
  have HT := Lib.hid hT
  have HPK := Lib.hid (fun W h => Pack_any x W HR h)
  clear hM hx hE hT
  go_enter Tryd.func24, Tryd.ntmps24
  go_wp2_with fail
  refine (HPR.out _ HBX.out).mono ?_
  rintro e w1 ⟨rfl, hb⟩
  have HB1 := Lib.hid (HBX.out.trans (hb.mono HBX.out.size))
  have HE1 := Lib.hid (HEB.out.below hb)
  clear hb
  obtain ⟨h0, h1, h2, h3, h4, h5, h6, h7, h8, h9, h10⟩ := HE1.out.zero
  go_wp2_with fail
  refine (HPK.out _ (HT.out.below HB1.out)).mono ?_
  rintro e w2 ⟨b, v, rfl, s⟩
  have S := Lib.hid s
  clear s h0 h1 h2 h3 h4 h5 h6 h7 h8 h9 h10
  generalize memHead x = mh at *
  have c11 : w2.cell? ⟨b, 11, none⟩ = some v := S.out.cell 11
  have HB2 := Lib.hid (HB1.out.trans (S.out.bel.mono HB1.out.size))
  have HO2 := Lib.hid (OwnRecs.mono S.out.own (show w.heap.size ≤ b + 1 by have := S.out.low; have := HB1.out.size; omega))
  go_wp2
  go_ret2
  exact ⟨v, rfl, HO2.out, HB2.out⟩
set_option maxRecDepth 100000 in
set_option maxHeartbeats 2000000 in
theorem HeadL_ok (x : Ent) (w : World) (hM : MaxOk w) (hx : x.Ok maxLen w) (hE : entFault x = 0) (hT : Pow10 w) :
    Calls Tryd.prog 25 #[x.val] w fun e w' => e = .returned (.tuple #[HeadN.val' (memHead x), .int .i64 0]) ∧ Below w.heap.size w w' := by
  have HR := Lib.hid (entRight hE)
  have HBX := Lib.hid ((Below.refl w.heap.size w).alloc (Nat.le_refl _) (.cells #[.string x.path, .int .i64 x.kind, .string x.target, .int .i64 x.mt.mode, .int .i64 x.mt.uid, .int .i64 x.mt.gid, .string x.mt.user, .string x.mt.group, .int .i64 x.mt.second, .int .i64 x.mt.nano, .slice x.da x.data.length x.dcap] 40))
  have HEB := Lib.hid (entAt_box w x 40)
  have HPR := Lib.hid (fun W hb => PlanRight_any x W (hM.below (w' := W) hb) hx.path hx.target hx.mt (by obtain ⟨_, _, _, _, _, h, _⟩ := hx.data; exact h) hx.kind (Nat.le_refl _))
  rw [hE] at HPR
  have HT := Lib.hid hT
  have HPK := Lib.hid (fun W h => Pack_any x W HR h)
  clear hM hx hE hT
  have HBZ := Lib.hid (HBX.out.alloc HBX.out.size (.cells #[.string ⟨#[]⟩, .string ⟨#[]⟩, .string ⟨#[]⟩, .int .i64 0, .int .i64 0, .int .i64 0, .int .i64 0, .int .i64 0, .int .u8 0, .string ⟨#[]⟩, .string ⟨#[]⟩] 53))
  have HEZ := Lib.hid (HEB.out.below ((Below.refl _ _).alloc (Nat.le_refl _) (.cells #[.string ⟨#[]⟩, .string ⟨#[]⟩, .string ⟨#[]⟩, .int .i64 0, .int .i64 0, .int .i64 0, .int .i64 0, .int .i64 0, .int .u8 0, .string ⟨#[]⟩, .string ⟨#[]⟩] 53)))
  have HRZ : Hid (((w.alloc (.cells #[.string x.path, .int .i64 x.kind, .string x.target, .int .i64 x.mt.mode, .int .i64 x.mt.uid, .int .i64 x.mt.gid, .string x.mt.user, .string x.mt.group, .int .i64 x.mt.second, .int .i64 x.mt.nano, .slice x.da x.data.length x.dcap] 40)).alloc (.cells #[.string ⟨#[]⟩, .string ⟨#[]⟩, .string ⟨#[]⟩, .int .i64 0, .int .i64 0, .int .i64 0, .int .i64 0, .int .i64 0, .int .u8 0, .string ⟨#[]⟩, .string ⟨#[]⟩] 53)).heap[w.heap.size + 1]? = some (.cells #[.string ⟨#[]⟩, .string ⟨#[]⟩, .string ⟨#[]⟩, .int .i64 0, .int .i64 0, .int .i64 0, .int .i64 0, .int .i64 0, .int .u8 0, .string ⟨#[]⟩, .string ⟨#[]⟩] 53 (0, 0))) := Lib.hid (heap_alloc2_new _ _ _)
  go_enter Tryd.func25, Tryd.ntmps25
  go_wp2_with fail
  refine (HPR.out _ HBZ.out).mono ?_
  rintro e w1 ⟨rfl, hb⟩
  have HB1 := Lib.hid (HBZ.out.trans (hb.mono HBZ.out.size))
  have HE1 := Lib.hid (HEZ.out.below hb)
  have HR1 := Lib.hid ((hb.block _ (Array.getElem?_eq_some_iff.1 HRZ.out).1).trans HRZ.out)
  clear hb
  obtain ⟨h0, h1, h2, h3, h4, h5, h6, h7, h8, h9, h10⟩ := HE1.out.zero
  go_wp2_with fail
  refine (HPK.out _ (HT.out.below HB1.out)).mono ?_
  rintro e w2 ⟨b, v, rfl, s⟩
  have S := Lib.hid s
  have HR2 := Lib.hid ((S.out.bel.block _ (Array.getElem?_eq_some_iff.1 HR1.out).1).trans HR1.out)
  have HB2 := Lib.hid (HB1.out.trans (S.out.bel.mono HB1.out.size))
  have hne : b ≠ w.heap.size + 1 := by have := S.out.low; have := (Array.getElem?_eq_some_iff.1 HR1.out).1; omega
  have HLR : Hid (w.heap.size ≤ w.heap.size + 1) := Lib.hid (by omega)
  clear s h0 h1 h2 h3 h4 h5 h6 h7 h8 h9 h10 HRZ HR1 HEZ HE1 HBZ HEB HB1
  generalize hmh : memHead x = mh at *
  generalize w.heap.size + 1 = br at *
  have c0 : w2.cell? ⟨b, 0, none⟩ = some (.string mh.nm) := S.out.cell 0
  have c1 : w2.cell? ⟨b, 1, none⟩ = some (.string mh.px) := S.out.cell 1
  have c2 : w2.cell? ⟨b, 2, none⟩ = some (.string mh.lk) := S.out.cell 2
  have c3 : w2.cell? ⟨b, 3, none⟩ = some (.int .i64 mh.mode) := S.out.cell 3
  have c4 : w2.cell? ⟨b, 4, none⟩ = some (.int .i64 mh.uid) := S.out.cell 4
  have c5 : w2.cell? ⟨b, 5, none⟩ = some (.int .i64 mh.gid) := S.out.cell 5
  have c6 : w2.cell? ⟨b, 6, none⟩ = some (.int .i64 mh.size) := S.out.cell 6
  have c7 : w2.cell? ⟨b, 7, none⟩ = some (.int .i64 mh.time) := S.out.cell 7
  have c8 : w2.cell? ⟨b, 8, none⟩ = some (.int .u8 mh.typ.toNat) := S.out.cell 8
  have c9 : w2.cell? ⟨b, 9, none⟩ = some (.string mh.user) := S.out.cell 9
  have c10 : w2.cell? ⟨b, 10, none⟩ = some (.string mh.group) := S.out.cell 10
  have r0 : w2.cell? ⟨br, 0, none⟩ = some (.string ⟨#[]⟩) := by rw [cell_of_row w2 br 0 _ _ (0, 0) HR2.out]; rfl
  have f0 := frozen_of_row w2 br 0 _ _ HR2.out
  have r1 : w2.cell? ⟨br, 1, none⟩ = some (.string ⟨#[]⟩) := by rw [cell_of_row w2 br 1 _ _ (0, 0) HR2.out]; rfl
  have f1 := frozen_of_row w2 br 1 _ _ HR2.out
  have r2 : w2.cell? ⟨br, 2, none⟩ = some (.string ⟨#[]⟩) := by rw [cell_of_row w2 br 2 _ _ (0, 0) HR2.out]; rfl
  have f2 := frozen_of_row w2 br 2 _ _ HR2.out
  have r3 : w2.cell? ⟨br, 3, none⟩ = some (.int .i64 0) := by rw [cell_of_row w2 br 3 _ _ (0, 0) HR2.out]; rfl
  have f3 := frozen_of_row w2 br 3 _ _ HR2.out
  have r4 : w2.cell? ⟨br, 4, none⟩ = some (.int .i64 0) := by rw [cell_of_row w2 br 4 _ _ (0, 0) HR2.out]; rfl
  have f4 := frozen_of_row w2 br 4 _ _ HR2.out
  have r5 : w2.cell? ⟨br, 5, none⟩ = some (.int .i64 0) := by rw [cell_of_row w2 br 5 _ _ (0, 0) HR2.out]; rfl
  have f5 := frozen_of_row w2 br 5 _ _ HR2.out
  have r6 : w2.cell? ⟨br, 6, none⟩ = some (.int .i64 0) := by rw [cell_of_row w2 br 6 _ _ (0, 0) HR2.out]; rfl
  have f6 := frozen_of_row w2 br 6 _ _ HR2.out
  have r7 : w2.cell? ⟨br, 7, none⟩ = some (.int .i64 0) := by rw [cell_of_row w2 br 7 _ _ (0, 0) HR2.out]; rfl
  have f7 := frozen_of_row w2 br 7 _ _ HR2.out
  have r8 : w2.cell? ⟨br, 8, none⟩ = some (.int .u8 0) := by rw [cell_of_row w2 br 8 _ _ (0, 0) HR2.out]; rfl
  have f8 := frozen_of_row w2 br 8 _ _ HR2.out
  have r9 : w2.cell? ⟨br, 9, none⟩ = some (.string ⟨#[]⟩) := by rw [cell_of_row w2 br 9 _ _ (0, 0) HR2.out]; rfl
  have f9 := frozen_of_row w2 br 9 _ _ HR2.out
  have r10 : w2.cell? ⟨br, 10, none⟩ = some (.string ⟨#[]⟩) := by rw [cell_of_row w2 br 10 _ _ (0, 0) HR2.out]; rfl
  have f10 := frozen_of_row w2 br 10 _ _ HR2.out
  have hne2 : br ≠ b := fun e => hne e.symm
  go_wp2
  (try simp only [Exit.inBlock, Exit.then])
  refine bodyPost_ret (v := .tuple #[HeadN.val' mh, .int .i64 0]) (by rw [results_cell_tmp rfl]; go_simp) rfl ?_
  exact ⟨by rw [hmh], (((((((((((HB2.out.setCell (p := ⟨br, 0, none⟩) HLR.out _).setCell (p := ⟨br, 1, none⟩) HLR.out _).setCell (p := ⟨br, 2, none⟩) HLR.out _).setCell (p := ⟨br, 3, none⟩) HLR.out _).setCell (p := ⟨br, 4, none⟩) HLR.out _).setCell (p := ⟨br, 5, none⟩) HLR.out _).setCell (p := ⟨br, 6, none⟩) HLR.out _).setCell (p := ⟨br, 7, none⟩) HLR.out _).setCell (p := ⟨br, 8, none⟩) HLR.out _).setCell (p := ⟨br, 9, none⟩) HLR.out _).setCell (p := ⟨br, 10, none⟩) HLR.out _)⟩
set_option maxRecDepth 100000 in
set_option maxHeartbeats 1000000 in
theorem RecordsL_any (x : Ent) (w : World) (hM : MaxOk w) (hx : x.Ok maxLen w) (hT : Pow10 w) :
    Calls Tryd.prog 24 #[x.val] w (RetRecs tRecE w (recordsOf x)) := by
  by_cases hE : entFault x = 0
  · rw [recordsOf_ok hE]
    exact RecordsL_ok x w hM hx hE hT
  · rw [recordsOf_bad hE]
    have HBX := Lib.hid ((Below.refl w.heap.size w).alloc (Nat.le_refl _) (.cells #[.string x.path, .int .i64 x.kind, .string x.target, .int .i64 x.mt.mode, .int .i64 x.mt.uid, .int .i64 x.mt.gid, .string x.mt.user, .string x.mt.group, .int .i64 x.mt.second, .int .i64 x.mt.nano, .slice x.da x.data.length x.dcap] 40))
    have HPR := Lib.hid (fun W hb => PlanRight_any x W (hM.below (w' := W) hb) hx.path hx.target hx.mt (by obtain ⟨_, _, _, _, _, h, _⟩ := hx.data; exact h) hx.kind (Nat.le_refl _))
    generalize entFault x = q at *
    have hq : (q != 0) = true := by rw [bne_iff_ne]; exact hE
    clear hM hx hE hT
    go_enter Tryd.func24, Tryd.ntmps24
    go_wp2_with fail
    refine (HPR.out _ HBX.out).mono ?_
    rintro e w1 ⟨rfl, hb⟩
    have HB1 := Lib.hid (HBX.out.trans (hb.mono HBX.out.size))
    clear hb
    go_wp2
    go_ret2
    exact ⟨_, rfl, OwnRecs.nil _ _ _, HB1.out⟩
set_option maxRecDepth 100000 in
set_option maxHeartbeats 1000000 in
theorem HeadL_any (x : Ent) (w : World) (hM : MaxOk w) (hx : x.Ok maxLen w) (hT : Pow10 w) :
    Calls Tryd.prog 25 #[x.val] w (fun e w' => e = .returned (.tuple #[HeadN.val' (mHeadOf x).1, .int .i64 (mHeadOf x).2]) ∧ Below w.heap.size w w') := by
  by_cases hE : entFault x = 0
  · rw [mHeadOf_ok hE]
    exact HeadL_ok x w hM hx hE hT
  · rw [mHeadOf_bad hE]
    have HBX := Lib.hid ((Below.refl w.heap.size w).alloc (Nat.le_refl _) (.cells #[.string x.path, .int .i64 x.kind, .string x.target, .int .i64 x.mt.mode, .int .i64 x.mt.uid, .int .i64 x.mt.gid, .string x.mt.user, .string x.mt.group, .int .i64 x.mt.second, .int .i64 x.mt.nano, .slice x.da x.data.length x.dcap] 40))
    have HPR := Lib.hid (fun W hb => PlanRight_any x W (hM.below (w' := W) hb) hx.path hx.target hx.mt (by obtain ⟨_, _, _, _, _, h, _⟩ := hx.data; exact h) hx.kind (Nat.le_refl _))
    have HBZ := Lib.hid (HBX.out.alloc HBX.out.size (.cells #[.string ⟨#[]⟩, .string ⟨#[]⟩, .string ⟨#[]⟩, .int .i64 0, .int .i64 0, .int .i64 0, .int .i64 0, .int .i64 0, .int .u8 0, .string ⟨#[]⟩, .string ⟨#[]⟩] 53))
    have HRZ : Hid (((w.alloc (.cells #[.string x.path, .int .i64 x.kind, .string x.target, .int .i64 x.mt.mode, .int .i64 x.mt.uid, .int .i64 x.mt.gid, .string x.mt.user, .string x.mt.group, .int .i64 x.mt.second, .int .i64 x.mt.nano, .slice x.da x.data.length x.dcap] 40)).alloc (.cells #[.string ⟨#[]⟩, .string ⟨#[]⟩, .string ⟨#[]⟩, .int .i64 0, .int .i64 0, .int .i64 0, .int .i64 0, .int .i64 0, .int .u8 0, .string ⟨#[]⟩, .string ⟨#[]⟩] 53)).heap[w.heap.size + 1]? = some (.cells #[.string ⟨#[]⟩, .string ⟨#[]⟩, .string ⟨#[]⟩, .int .i64 0, .int .i64 0, .int .i64 0, .int .i64 0, .int .i64 0, .int .u8 0, .string ⟨#[]⟩, .string ⟨#[]⟩] 53 (0, 0))) := Lib.hid (heap_alloc2_new _ _ _)
    generalize entFault x = q at *
    have hq : (q != 0) = true := by rw [bne_iff_ne]; exact hE
    clear hM hx hE hT
    go_enter Tryd.func25, Tryd.ntmps25
    go_wp2_with fail
    refine (HPR.out _ HBZ.out).mono ?_
    rintro e w1 ⟨rfl, hb⟩
    have HB1 := Lib.hid (HBZ.out.trans (hb.mono HBZ.out.size))
    have HR1 := Lib.hid ((hb.block _ (Array.getElem?_eq_some_iff.1 HRZ.out).1).trans HRZ.out)
    clear hb
    have HLR : Hid (w.heap.size ≤ w.heap.size + 1) := Lib.hid (by omega)
    generalize w.heap.size + 1 = br at *
    have r0 : w1.cell? ⟨br, 0, none⟩ = some (.string ⟨#[]⟩) := by rw [cell_of_row w1 br 0 _ _ (0, 0) HR1.out]; rfl
    have f0 := frozen_of_row w1 br 0 _ _ HR1.out
    have r1 : w1.cell? ⟨br, 1, none⟩ = some (.string ⟨#[]⟩) := by rw [cell_of_row w1 br 1 _ _ (0, 0) HR1.out]; rfl
    have f1 := frozen_of_row w1 br 1 _ _ HR1.out
    have r2 : w1.cell? ⟨br, 2, none⟩ = some (.string ⟨#[]⟩) := by rw [cell_of_row w1 br 2 _ _ (0, 0) HR1.out]; rfl
    have f2 := frozen_of_row w1 br 2 _ _ HR1.out
    have r3 : w1.cell? ⟨br, 3, none⟩ = some (.int .i64 0) := by rw [cell_of_row w1 br 3 _ _ (0, 0) HR1.out]; rfl
    have f3 := frozen_of_row w1 br 3 _ _ HR1.out
    have r4 : w1.cell? ⟨br, 4, none⟩ = some (.int .i64 0) := by rw [cell_of_row w1 br 4 _ _ (0, 0) HR1.out]; rfl
    have f4 := frozen_of_row w1 br 4 _ _ HR1.out
    have r5 : w1.cell? ⟨br, 5, none⟩ = some (.int .i64 0) := by rw [cell_of_row w1 br 5 _ _ (0, 0) HR1.out]; rfl
    have f5 := frozen_of_row w1 br 5 _ _ HR1.out
    have r6 : w1.cell? ⟨br, 6, none⟩ = some (.int .i64 0) := by rw [cell_of_row w1 br 6 _ _ (0, 0) HR1.out]; rfl
    have f6 := frozen_of_row w1 br 6 _ _ HR1.out
    have r7 : w1.cell? ⟨br, 7, none⟩ = some (.int .i64 0) := by rw [cell_of_row w1 br 7 _ _ (0, 0) HR1.out]; rfl
    have f7 := frozen_of_row w1 br 7 _ _ HR1.out
    have r8 : w1.cell? ⟨br, 8, none⟩ = some (.int .u8 0) := by rw [cell_of_row w1 br 8 _ _ (0, 0) HR1.out]; rfl
    have f8 := frozen_of_row w1 br 8 _ _ HR1.out
    have r9 : w1.cell? ⟨br, 9, none⟩ = some (.string ⟨#[]⟩) := by rw [cell_of_row w1 br 9 _ _ (0, 0) HR1.out]; rfl
    have f9 := frozen_of_row w1 br 9 _ _ HR1.out
    have r10 : w1.cell? ⟨br, 10, none⟩ = some (.string ⟨#[]⟩) := by rw [cell_of_row w1 br 10 _ _ (0, 0) HR1.out]; rfl
    have f10 := frozen_of_row w1 br 10 _ _ HR1.out
    go_wp2
    (try simp only [Exit.inBlock, Exit.then])
    refine bodyPost_ret (v := .tuple #[.agg #[.string ⟨#[]⟩, .string ⟨#[]⟩, .string ⟨#[]⟩, .int .i64 0, .int .i64 0, .int .i64 0, .int .i64 0, .int .i64 0, .int .u8 0, .string ⟨#[]⟩, .string ⟨#[]⟩], .int .i64 q]) (by rw [results_cell_tmp rfl]; go_simp) rfl ?_
    exact ⟨rfl, (((((((((((HB1.out.setCell (p := ⟨br, 0, none⟩) HLR.out _).setCell (p := ⟨br, 1, none⟩) HLR.out _).setCell (p := ⟨br, 2, none⟩) HLR.out _).setCell (p := ⟨br, 3, none⟩) HLR.out _).setCell (p := ⟨br, 4, none⟩) HLR.out _).setCell (p := ⟨br, 5, none⟩) HLR.out _).setCell (p := ⟨br, 6, none⟩) HLR.out _).setCell (p := ⟨br, 7, none⟩) HLR.out _).setCell (p := ⟨br, 8, none⟩) HLR.out _).setCell (p := ⟨br, 9, none⟩) HLR.out _).setCell (p := ⟨br, 10, none⟩) HLR.out _)⟩
end Go.Proofs.YtaffgndickdbiaaDoor
