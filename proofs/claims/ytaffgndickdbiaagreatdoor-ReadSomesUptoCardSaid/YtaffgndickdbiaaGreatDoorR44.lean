/-
  Texts: MemB.
-/
import Derived.Test.YtaffgndickdbiaaGreatDoorR24
import Derived.Test.YtaffgndickdbiaaGreatDoorR42
import Derived.Test.YtaffgndickdbiaaGreatDoorR43
set_option linter.unusedVariables false
set_option linter.unusedSimpArgs false
set_option linter.unusedSectionVars false
namespace Go.Proofs.YtaffgndickdbiaaGreatDoor
open Go.Creel Go.RowKit
theorem PaxHeadR_any (n : Nat) (w : World) (hn : n ≤ 10000) :
    Calls Tryz.prog 43 #[.agg #[.string ⟨#[64, 112, 97, 120]⟩, .string ⟨#[]⟩, .string ⟨#[]⟩, .int .i64 0, .int .i64 0, .int .i64 0, .int .i64 n, .int .i64 0, .int .u8 120, .string ⟨#[]⟩, .string ⟨#[]⟩]] w fun e w' => e = .returned (.tuple #[.string (headText (paxHead n)).1, .int .i64 (headText (paxHead n)).2]) ∧ Below w.heap.size w w' :=
  HeadText_any (paxHead n) w (by constructor <;> simp only [paxHead] <;> first | decide | (unfold i64; omega))
set_option maxRecDepth 100000 in
set_option maxHeartbeats 4000000 in
theorem MemB_ok (x : Ent) (w : World) (hx : x.Ok maxLen w) (hE : entFault x = 0) (hT : Pow10 w) :
    Calls Tryz.prog 12 #[x.val] w (RetM 5 w (memB x, 0)) := by
  obtain ⟨i0, hi, hz0, hz1, hz2⟩ := info_parts info_byte2
  have HI := Lib.hid (And.intro hi (And.intro hz0 (And.intro hz1 hz2)))
  have HR := Lib.hid (entRight hE)
  have HBX := Lib.hid ((Below.refl w.heap.size w).alloc (Nat.le_refl _) (.cells #[.string x.path, .int .i64 x.kind, .string x.target, .int .i64 x.mt.mode, .int .i64 x.mt.uid, .int .i64 x.mt.gid, .string x.mt.user, .string x.mt.group, .int .i64 x.mt.second, .int .i64 x.mt.nano, .slice x.da x.data.length x.dcap] 26))
  have HEB := Lib.hid (entAt_box w x 26)
  have HH := Lib.hid (MemHead_ok x _ (hx.below HBX.out) hE (hT.below HBX.out))
  have HRC := Lib.hid (fun W hb => MemRecs_ok x W (hx.below (w' := W) hb) hE (hT.below (w' := W) hb))
  have HXD := Lib.hid hx.data
  have HT := Lib.hid hT
  have HSM := Lib.hid (memRecs_small HR.out)
  have HMH := Lib.hid (memHead_small HR.out)
  have HLN := Lib.hid (rl7_len x)
  rw [rl7_eq] at HLN
  have hdl := HR.out.data
  have hpd := padFill_le x.data
  have hht := headText_le (memHead x)
  have HF : Hid (memB x = memPre (memRecs x) ++ ((headText (memHead x)).1.data.toList ++ padFill x.data)) := Lib.hid rfl
  clear hx hE hT hi hz0 hz1 hz2
  go_enter Tryz.func12, Tryz.ntmps12
  go_wp2_with fail
  refine HH.out.mono ?_
  rintro e w1 ⟨rfl, hb⟩
  have HB1 := Lib.hid (HBX.out.trans (hb.mono HBX.out.size))
  have HE1 := Lib.hid (HEB.out.below hb)
  clear hb HH HBX HEB
  generalize memHead x = mh at *
  obtain ⟨h0, h1, h2, h3, h4, h5, h6, h7, h8, h9, h10⟩ := HE1.out.zero
  go_upto_region 4 with fail
  have HA := Lib.hid ((Below.refl w1.heap.size w1).alloc (Nat.le_refl _) (.cells #[.string mh.nm, .string mh.px, .string mh.lk, .int .i64 mh.mode, .int .i64 mh.uid, .int .i64 mh.gid, .int .i64 mh.size, .int .i64 mh.time, .int .u8 mh.typ.toNat, .string mh.user, .string mh.group] 62))
  have HB2 := Lib.hid (HB1.out.trans (HA.out.mono HB1.out.size))
  have HE2 := Lib.hid (HE1.out.below HA.out)
  have HD2 : Hid ((w1.alloc (.cells #[.string mh.nm, .string mh.px, .string mh.lk, .int .i64 mh.mode, .int .i64 mh.uid, .int .i64 mh.gid, .int .i64 mh.size, .int .i64 mh.time, .int .u8 mh.typ.toNat, .string mh.user, .string mh.group] 62)).heap[w1.heap.size]? = some (.cells #[.string mh.nm, .string mh.px, .string mh.lk, .int .i64 mh.mode, .int .i64 mh.uid, .int .i64 mh.gid, .int .i64 mh.size, .int .i64 mh.time, .int .u8 mh.typ.toNat, .string mh.user, .string mh.group] 62 (0, 0))) := Lib.hid (heap_alloc_new _ _)
  clear h0 h1 h2 h3 h4 h5 h6 h7 h8 h9 h10
  generalize w1.heap.size = bh at *
  generalize w1.alloc (.cells #[.string mh.nm, .string mh.px, .string mh.lk, .int .i64 mh.mode, .int .i64 mh.uid, .int .i64 mh.gid, .int .i64 mh.size, .int .i64 mh.time, .int .u8 mh.typ.toNat, .string mh.user, .string mh.group] 62) = w2 at *
  clear HA HB1 HE1
  obtain ⟨h0, h1, h2, h3, h4, h5, h6, h7, h8, h9, h10⟩ := HE2.out.zero
  go_wp2_with fail
  refine (HRC.out _ HB2.out).mono ?_
  rintro e w3 ⟨v, rfl, ho, hb⟩
  simp only at ho ⊢
  generalize memRecs x = l at *
  obtain ⟨a, cp, hv, hcp, _⟩ := OwnRecs.form2 ho
  have HOR := Lib.hid ho
  have HB3 := Lib.hid (HB2.out.trans (hb.mono HB2.out.size))
  have HE3 := Lib.hid (HE2.out.below hb)
  have HD3 := Lib.hid ((hb.block bh (Array.getElem?_eq_some_iff.1 HD2.out).1).trans HD2.out)
  subst hv
  clear ho hb h0 h1 h2 h3 h4 h5 h6 h7 h8 h9 h10 HB2 HE2 HD2 HRC
  have c0 : w3.cell? ⟨bh, 0, none⟩ = some (.string mh.nm) := by rw [cell_of_row w3 bh 0 _ _ (0, 0) HD3.out]; rfl
  have c1 : w3.cell? ⟨bh, 1, none⟩ = some (.string mh.px) := by rw [cell_of_row w3 bh 1 _ _ (0, 0) HD3.out]; rfl
  have c2 : w3.cell? ⟨bh, 2, none⟩ = some (.string mh.lk) := by rw [cell_of_row w3 bh 2 _ _ (0, 0) HD3.out]; rfl
  have c3 : w3.cell? ⟨bh, 3, none⟩ = some (.int .i64 mh.mode) := by rw [cell_of_row w3 bh 3 _ _ (0, 0) HD3.out]; rfl
  have c4 : w3.cell? ⟨bh, 4, none⟩ = some (.int .i64 mh.uid) := by rw [cell_of_row w3 bh 4 _ _ (0, 0) HD3.out]; rfl
  have c5 : w3.cell? ⟨bh, 5, none⟩ = some (.int .i64 mh.gid) := by rw [cell_of_row w3 bh 5 _ _ (0, 0) HD3.out]; rfl
  have c6 : w3.cell? ⟨bh, 6, none⟩ = some (.int .i64 mh.size) := by rw [cell_of_row w3 bh 6 _ _ (0, 0) HD3.out]; rfl
  have c7 : w3.cell? ⟨bh, 7, none⟩ = some (.int .i64 mh.time) := by rw [cell_of_row w3 bh 7 _ _ (0, 0) HD3.out]; rfl
  have c8 : w3.cell? ⟨bh, 8, none⟩ = some (.int .u8 mh.typ.toNat) := by rw [cell_of_row w3 bh 8 _ _ (0, 0) HD3.out]; rfl
  have c9 : w3.cell? ⟨bh, 9, none⟩ = some (.string mh.user) := by rw [cell_of_row w3 bh 9 _ _ (0, 0) HD3.out]; rfl
  have c10 : w3.cell? ⟨bh, 10, none⟩ = some (.string mh.group) := by rw [cell_of_row w3 bh 10 _ _ (0, 0) HD3.out]; rfl
  go_wp2_with fail
  refine (HeadText_any mh _ HMH.out).mono ?_
  rintro e w4 ⟨rfl, hb⟩
  have HB4 := Lib.hid (HB3.out.trans (hb.mono HB3.out.size))
  have HE4 := Lib.hid (HE3.out.below hb)
  have HOR4 := Lib.hid (HOR.out.below hb)
  clear hb c0 c1 c2 c3 c4 c5 c6 c7 c8 c9 c10 HB3 HE3 HD3 HOR
  generalize (headText mh).1 = ht at *
  generalize (headText mh).2 = he at *
  have hcv := fun w => conv_str w ht
  have hlt4 := HE4.out.lt
  have HXD4 := Lib.hid (fun W (hb : Below w4.heap.size w4 W) => HXD.out.below (w' := W) (fun _ _ h => h) (HB4.out.trans (hb.mono HB4.out.size)))
  have HB44 := Lib.hid (Below.refl w4.heap.size w4)
  have hc5 := (HE4.out.below (conv_below w4 5 ht)).data
  go_wp2_with fail
  have HCV5 := Lib.hid (conv_below w4 5 ht)
  have HCM5 := Lib.hid (OwnM.conv w4 5 ht (by unfold maxLen; omega))
  have HBV5 := Lib.hid (HB44.out.trans (HCV5.out.mono HB44.out.size))
  generalize hg5 : grownCap w4 (ht).size 0 5 = gc5 at *
  generalize Lib.bytesWorld w4 5 ht = w5 at *
  clear hc5
  refine (PadFill_any (N := maxLen) _ x.data _ (HXD4.out _ HBV5.out) (by omega)).mono ?_
  rintro e w6 ⟨v6, rfl, ho, hb⟩
  have HO6 := Lib.hid (OwnBs.marked ho)
  have HB6 := Lib.hid (HBV5.out.trans (hb.mono HBV5.out.size))
  have HOC6 := Lib.hid (HCM5.out.below hb)
  clear ho hb
  have HBD : Hid (ht.data.toList.length + (padFill x.data).length ≤ 140737488355328) := Lib.hid (by rw [toL_len]; omega)
  have HO6S := Lib.hid (HO6.out.slice (N := maxLen) (by unfold maxLen; omega))
  go_upto_region 7 with (at_builtin; refine wpList_appM rfl (.tmp 34) (.tmp 37) 24 24 rfl _ _ rfl rfl (fun ty => app_m _ 24 24 5 ty i0 Tryz.underlying24 HI.out.1 HI.out.2.1 HI.out.2.2.1 HI.out.2.2.2 HOC6.out (src_bytes (N := maxLen) Tryz.underlying24 HO6S.out) HBD.out HB6.out.size) ?_; intro v7 w7 ho hg; have HO7 := Lib.hid ho; have HB7 := Lib.hid (OwnM.grown HB6.out hg HOC6.out HB6.out.size (Nat.le_refl _)); clear ho hg)
  have HF2 : Hid (memB x = memPre l ++ (ht.data.toList ++ padFill x.data)) := HF
  generalize hpf : padFill x.data = pf at *
  by_cases hl0 : l.length = 0
  · have hq : ((l.length : Int) == 0) = true := by rw [beq_iff_eq]; omega
    have HPN := Lib.hid (memPre_no hl0)
    clear hl0
    go_wp2
    go_ret2
    exact ⟨_, rfl, by rw [HF2.out, HPN.out, List.nil_append]; exact HO7.out.mono HB4.out.size, HB4.out.trans (HB7.out.mono HB4.out.size)⟩
  · have hq : ((l.length : Int) == 0) = false := by rw [beq_eq_false_iff_ne]; omega
    have HPY := Lib.hid (memPre_yes hl0)
    clear hl0
    have HOR7 := Lib.hid (HOR4.out.below HB7.out)
    have HSL := Lib.hid (OwnRecs.slice HOR7.out (by have := HLN.out; unfold maxLen; omega) HSM.out)
    have hpl := paxWrite_le l
    have HPW := Lib.hid (fun w h hT => PaxT_any (.slice a l.length cp) l w h hT)
    have hhp := headText_le (paxHead (paxWrite l).1.size)
    have HB70 := Lib.hid (HB4.out.trans (HB7.out.mono HB4.out.size))
    go_wp2_with fail
    refine (HPW.out _ HSL.out (HT.out.below HB70.out)).mono ?_
    rintro e w8 ⟨rfl, hb⟩
    have HB8 := Lib.hid hb
    clear hb HPW HSL HOR7
    generalize (paxWrite l).1 = pt at *
    generalize (paxWrite l).2 = pe at *
    go_wp2_with fail
    refine (PaxHeadR_any pt.size _ (by omega)).mono ?_
    rintro e w9 ⟨rfl, hb⟩
    have HB9 := Lib.hid (HB8.out.trans (hb.mono HB8.out.size))
    have HO9 := Lib.hid (HO7.out.below HB9.out)
    clear hb HB8 HO7
    generalize (headText (paxHead pt.size)).1 = hp at *
    generalize (headText (paxHead pt.size)).2 = hpe at *
    have hcu := fun w => conv_str w hp
    have hct := fun w => conv_str w pt
    have HB99 := Lib.hid (Below.refl w9.heap.size w9)
    go_wp2_with fail
    have HCV10 := Lib.hid (conv_below w9 5 hp)
    have HCM10 := Lib.hid (OwnM.conv w9 5 hp (by unfold maxLen; omega))
    have HBV10 := Lib.hid (HB99.out.trans (HCV10.out.mono HB99.out.size))
    generalize hg10 : grownCap w9 (hp).size 0 5 = gc10 at *
    generalize Lib.bytesWorld w9 5 hp = w10 at *
    have HCV11 := Lib.hid (conv_below w10 5 pt)
    have HCM11 := Lib.hid (OwnM.conv w10 5 pt (by unfold maxLen; omega))
    have HBV11 := Lib.hid (HBV10.out.trans (HCV11.out.mono HBV10.out.size))
    generalize hg11 : grownCap w10 (pt).size 0 5 = gc11 at *
    generalize Lib.bytesWorld w10 5 pt = w11 at *
    refine (PadFill_any (N := maxLen) _ pt.data.toList _ (HCM11.out.slice (by rw [toL_len]; unfold maxLen; omega)) (by rw [toL_len]; omega)).mono ?_
    rintro e w12 ⟨v12, rfl, ho, hb⟩
    have hpfp := padFill_le pt.data.toList
    rw [toL_len] at hpfp
    have HO12 := Lib.hid ((OwnBs.marked ho).slice (N := maxLen) (by unfold maxLen; omega))
    have HB12 := Lib.hid (HBV11.out.trans (hb.mono HBV11.out.size))
    have HOC12 := Lib.hid ((HCM10.out.below HCV11.out).below hb)
    clear ho hb
    have HBE : Hid (hp.data.toList.length + (padFill pt.data.toList).length ≤ 140737488355328) := Lib.hid (by rw [toL_len]; omega)
    have HBG : Hid ((hp.data.toList ++ padFill pt.data.toList).length + (ht.data.toList ++ pf).length ≤ 140737488355328) := Lib.hid (by rw [List.length_append, List.length_append, toL_len, toL_len]; omega)
    have HLG : Hid ((ht.data.toList ++ pf).length ≤ maxLen) := Lib.hid (by rw [List.length_append, toL_len]; unfold maxLen; omega)
    go_wp2_with (first
      | (at_builtin; refine wpList_appM rfl (.tmp 56) (.tmp 59) 24 24 rfl _ _ rfl rfl (fun ty => app_m _ 24 24 5 ty i0 Tryz.underlying24 HI.out.1 HI.out.2.1 HI.out.2.2.1 HI.out.2.2.2 HOC12.out (src_bytes (N := maxLen) Tryz.underlying24 HO12.out) HBE.out HB12.out.size) ?_; intro v13 w13 ho hg; have HO13 := Lib.hid ho; have HB13 := Lib.hid (OwnM.grown HB12.out hg HOC12.out HB12.out.size (Nat.le_refl _)); have HS13 := Lib.hid ((HO9.out.below HB13.out).slice HLG.out); clear ho hg)
      | (at_builtin; refine wpList_appM rfl (.tmp 60) (.tmp 61) 24 24 rfl _ _ rfl rfl (fun ty => app_m _ 24 24 5 ty i0 Tryz.underlying24 HI.out.1 HI.out.2.1 HI.out.2.2.1 HI.out.2.2.2 HO13.out (src_bytes (N := maxLen) Tryz.underlying24 HS13.out) HBG.out HB13.out.size) ?_; intro v14 w14 ho hg; have HO14 := Lib.hid ho; have HB14 := Lib.hid (OwnM.grown HB13.out hg HO13.out HB13.out.size (Nat.le_refl _)); clear ho hg))
    go_ret2
    have HZ := Lib.hid (HB70.out.trans (HB9.out.mono HB70.out.size))
    exact ⟨_, rfl, by rw [HF2.out, HPY.out]; exact HO14.out.mono HZ.out.size, HZ.out.trans (HB14.out.mono HZ.out.size)⟩
set_option maxRecDepth 100000 in
set_option maxHeartbeats 1000000 in
theorem MemB_any (x : Ent) (w : World) (hx : x.Ok maxLen w) (hT : Pow10 w) :
    Calls Tryz.prog 12 #[x.val] w (RetM 5 w (memBytes x)) := by
  by_cases hE : entFault x = 0
  · rw [memBytes_ok hE]
    exact MemB_ok x w hx hE hT
  · rw [memBytes_bad hE]
    have HBX := Lib.hid ((Below.refl w.heap.size w).alloc (Nat.le_refl _) (.cells #[.string x.path, .int .i64 x.kind, .string x.target, .int .i64 x.mt.mode, .int .i64 x.mt.uid, .int .i64 x.mt.gid, .string x.mt.user, .string x.mt.group, .int .i64 x.mt.second, .int .i64 x.mt.nano, .slice x.da x.data.length x.dcap] 26))
    have HPR := Lib.hid (MemHead_any x _ (hx.below HBX.out) (hT.below HBX.out))
    rw [mHeadOf_bad hE] at HPR
    generalize entFault x = q at *
    generalize headZ = hz at *
    have hq : (q != 0) = true := by rw [bne_iff_ne]; exact hE
    clear hx hE hT
    go_enter Tryz.func12, Tryz.ntmps12
    go_wp2_with fail
    refine HPR.out.mono ?_
    rintro e w1 ⟨rfl, hb⟩
    have HB1 := Lib.hid (HBX.out.trans (hb.mono HBX.out.size))
    clear hb
    go_upto_region 2 with fail
    have HB2 := Lib.hid (HB1.out.alloc HB1.out.size (.cells #[.string hz.nm, .string hz.px, .string hz.lk, .int .i64 hz.mode, .int .i64 hz.uid, .int .i64 hz.gid, .int .i64 hz.size, .int .i64 hz.time, .int .u8 hz.typ.toNat, .string hz.user, .string hz.group] 62))
    go_wp2
    go_ret2
    exact ⟨_, rfl, OwnM.nil _ _ _, HB2.out⟩
end Go.Proofs.YtaffgndickdbiaaGreatDoor
