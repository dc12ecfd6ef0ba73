/-
  Texts: ApplyR, MaxOk, Laid, Bulk.
-/
import Derived.Test.YtaffgndickdbiaaDoorT15
import Derived.Test.YtaffgndickdbiaaDoorT16
import Derived.Shaped
import Derived.Test.YtaffgndickdbiaaDoorRows
import Derived.Deep.DeepHandedRow
import Derived.Lib.LaidTab
set_option linter.unusedVariables false
set_option linter.unusedSimpArgs false
set_option linter.unusedSectionVars false
namespace Go.Proofs.YtaffgndickdbiaaDoor
open Go.Creel Go.RowKit
set_option maxRecDepth 100000 in
set_option maxHeartbeats 8000000 in
theorem ApplyR_any (v : Value) (t : List Nod) (vl : Value) (l : List Chg) (w : World) (ht : SliceC maxLen 12 (NodC maxLen) w [v] t) (hl : SliceC maxLen 13 (ChgC maxLen) w [vl] l) (hlen : l.length ≤ 1048576) (hls : ∀ k, k < l.length → NodShort (ck l k).node) (hM : MaxOk w) :
    Calls Tryd.prog 18 #[v, vl] w (RetTE 60 w (diffApply t l)) := by
  obtain ⟨i0, hi, hz0, hz1, hz2⟩ := info_parts info_node
  have HI := Lib.hid (And.intro hi (And.intro hz0 (And.intro hz1 hz2)))
  have HCT := Lib.hid (TreeFault_any v t w ht)
  have HH := Lib.hid ht
  have HM := Lib.hid hM
  obtain ⟨al, cl, rfl, hcl, hclm, hop⟩ := chgs_open hl
  have HOP := Lib.hid hop
  have HLS := Lib.hid hls
  have HQ1 := Lib.hid (diffApply_bad (t := t) (l := l))
  have HQ2 := Lib.hid (diffApply_ok (t := t) (l := l))
  unfold maxLen at hclm
  generalize hU : diffApply t l = U at *
  have HU := Lib.hid hU
  clear ht hl hM hi hz0 hz1 hz2 hop hls hU
  go_enter Tryd.func18, Tryd.ntmps18
  go_wp2_with fail
  refine HCT.out.mono ?_
  rintro e w1 ⟨rfl, hb⟩
  have HB1 := Lib.hid hb
  clear hb HCT
  by_cases hf : treeFault t = 0
  · have hfq : (treeFault t != 0) = false := by rw [hf]; rfl
    have HA := Lib.hid (treeFault_all hf)
    have HSH := Lib.hid (show NodsShort t from fun x hx => by
      obtain ⟨k, hk, rfl⟩ := mem_nk hx
      have h1 := HA.out.2 k hk
      exact ⟨Nat.le_trans (nodFault_path h1) (by omega), Nat.le_trans (nodFault_dat h1) (by omega)⟩)
    have HCP := Lib.hid (CopyR_any v t w1 (nods_below HH.out HB1.out) (by have := HA.out.1; omega) HSH.out.dat)
    have HUE := HQ2.out hf
    clear HQ1 HQ2
    go_wp2_with fail
    refine HCP.out.mono ?_
    rintro e w2 ⟨v2, c, rfl, ho, hc, hb⟩
    have HB2 := Lib.hid (HB1.out.trans (hb.mono HB1.out.size))
    have HO2 := Lib.hid (ho.mono HB1.out.size)
    have HG2 := Lib.hid (show AGo c l U by rw [HUE]; exact AGo.start hc)
    have HL2 := Lib.hid (show c.length ≤ 40 by rw [bare_len hc]; exact HA.out.1)
    have HS2 := Lib.hid (HSH.out.bare hc)
    clear ho hc hb HCP HA HSH HUE HU HH hf hfq
    obtain ⟨u1, u2⟩ := U
    go_wp2_with fail
    go_loopw [7, 9, 10, 11, 12, 13, 24] (fun v7 _ _ _ _ _ i wr => ∃ (k : Nat) (vo : Value) (c : List Nod), k ≤ l.length ∧ i = .int .i64 (k : Int) ∧ vo = v7 ∧ c.length ≤ 40 + k ∧ Hid (OwnNods 60 wr w.heap.size vo c) ∧ Hid (NodsShort c) ∧ Hid (AGo c (l.drop k) (u1, u2)) ∧ Hid (Below w.heap.size w wr)) (fun _ _ _ _ _ _ i _ => l.length - (intOf i).toNat)
    case atStart => exact ⟨0, _, c, by omega, rfl, rfl, by have := HL2.out; omega, HO2, HS2, HG2, HB2⟩
    case round =>
      obtain ⟨k, vo, c, hk, rfl, rfl, hcl1, HO, HS, HG, HB⟩ := hrel
      by_cases hlt : k < l.length
      · obtain ⟨bl, ol, rfl, hcc, hki, hno⟩ := HOP.out k hlt
        obtain ⟨h0, h1, h2, h3, h4, h5, h6, h7, h8, h9, h10, h11, h12⟩ := hcc.below HB.out
        have HX := Lib.hid (HLS.out k hlt)
        have HNO := Lib.hid (hno.below HB.out)
        have HBAD := Lib.hid (fun (e : Int) he hz => HG.out.bad hlt (e := e) he hz)
        have HNXT := Lib.hid (fun (p : List Nod) he hp => HG.out.next hlt (p := p) he hp)
        clear hcc hki hno HG
        generalize ck l k = cx at *
        obtain ⟨kd, x⟩ := cx
        simp only at h0 h1 h2 h3 h4 h5 h6 h7 h8 h9 h10 h11 h12
        have HBX := Lib.hid ((Below.refl wr.heap.size wr).alloc (Nat.le_refl _) (boxC ⟨kd, x⟩))
        have HBR := Lib.hid (heap_alloc_new wr (boxC ⟨kd, x⟩))
        have HXP := Lib.hid (HX.out.path)
        have HXD := Lib.hid (HX.out.data)
        obtain ⟨w3, hw3⟩ : ∃ W : World, W = wr.alloc (boxC ⟨kd, x⟩) := ⟨_, rfl⟩
        have HB3 := Lib.hid (show Below w.heap.size w w3 by rw [hw3]; exact HB.out.trans (HBX.out.mono HB.out.size))
        have HO3 := Lib.hid (show OwnNods 60 w3 w.heap.size vo c by rw [hw3]; exact HO.out.below HBX.out)
        have HN3 := Lib.hid (show x.Ok maxLen w3 by rw [hw3]; exact HNO.out.below HBX.out)
        have HBR3 := Lib.hid (show w3.heap[wr.heap.size]? = some (boxC ⟨kd, x⟩) by rw [hw3]; exact HBR.out)
        have hbxl : wr.heap.size < w3.heap.size := (Array.getElem?_eq_some_iff.1 HBR3.out).1
        obtain ⟨b0, b1, b2, b3, b4, b5, b6, b7, b8, b9, b10, b11, b12⟩ := chg_row HBR3.out
        simp only [Nat.reduceAdd] at b0 b1 b2 b3 b4 b5 b6 b7 b8 b9 b10 b11 b12
        have HFD := Lib.hid (TreeFindN_any vo c x.path w3 (HO3.out.slice (by unfold maxLen; omega)))
        go_upto_region 8 with fail
        rw [show wr.alloc (boxC ⟨kd, x⟩) = w3 from hw3.symm]
        clear hw3 HBX HBR HO HB HNO h0 h1 h2 h3 h4 h5 h6 h7 h8 h9 h10 h11 h12 HB1 HB2 HO2 HL2 HS2 HG2
        by_cases hk1 : kd < 1
        · have hk1d : decide (kd < 1) = true := decide_eq_true hk1
          obtain ⟨hu1, hu2⟩ := HBAD.out 2 (applyE_kind (.inl hk1)) (by decide)
          try simp only at hu1 hu2
          subst hu2
          have HU1 := Lib.hid hu1
          clear hu1 HBAD HNXT
          go_wp2
          go_ret2
          exact ⟨_, [], rfl, OwnNods.nil _ _ _, HU1.out.symm, HB3.out⟩
        · have hk1d : decide (kd < 1) = false := decide_eq_false hk1
          by_cases hk3 : 3 < kd
          · have hk3d : decide (3 < kd) = true := decide_eq_true hk3
            obtain ⟨hu1, hu2⟩ := HBAD.out 2 (applyE_kind (.inr hk3)) (by decide)
            try simp only at hu1 hu2
            subst hu2
            have HU1 := Lib.hid hu1
            clear hu1 HBAD HNXT
            go_wp2
            go_ret2
            exact ⟨_, [], rfl, OwnNods.nil _ _ _, HU1.out.symm, HB3.out⟩
          · have hk3d : decide (3 < kd) = false := decide_eq_false hk3
            obtain ⟨ao, capo, rfl, hco, hcmo, hao⟩ := HO3.out.openedD
            have HAO := Lib.hid hao
            clear hao
            unfold maxLen at hcmo
            by_cases hfd : treeFind c x.path < c.length
            · rcases (show kd = 1 ∨ kd = 2 ∨ kd = 3 by omega) with rfl | rfl | rfl
              · have HE := Lib.hid (applyE_old (o := c) (c := ⟨1, x⟩) (show ¬ ((1 : Int) < 1 ∨ (3 : Int) < 1) by decide) (show ¬ (1 : Int) = 2 by decide) hfd)
                have HP := Lib.hid (applyS_gone (o := c) (c := ⟨1, x⟩) rfl)
                have HSN := Lib.hid (HS.out.step (c := ⟨1, x⟩) HX.out)
                have hln := applyS_len (o := c) (c := ⟨1, x⟩) hcl1
                have HNX := Lib.hid (HNXT.out _ HE.out rfl)
                rw [HP.out] at HSN hln HNX
                simp only at HSN hln HNX
                have hln : (c.eraseIdx (treeFind c x.path)).length ≤ 40 + (k + 1) := by omega
                have HALL := Lib.hid (nextL_all1 (x := x) hfd)
                have hne : (((treeFind c x.path : Nat) : Int) == (c.length : Int)) = false := by rw [beq_eq_false_iff_ne]; omega
                generalize treeFind c x.path = ix at *
                clear HBAD HNXT HE HP HX
                go_wp2_with fail
                refine HFD.out.mono ?_
                rintro e wq ⟨rfl, rfl⟩
                clear HFD
                go_wp2_with fail
                go_loopw [11, 12, 13, 61] (fun v11 _ _ j wy => ∃ (qq : Nat) (vn : Value), qq ≤ c.length ∧ j = .int .i64 (qq : Int) ∧ vn = v11 ∧ Hid (OwnNods 60 wy w3.heap.size vn (nextL 1 ix x c qq)) ∧ Hid (Below w3.heap.size w3 wy)) (fun _ _ _ j _ => c.length - (intOf j).toNat)
                case atStart => exact ⟨0, _, by omega, rfl, rfl, Lib.hid (OwnNods.nil _ _ _), Lib.hid (Below.refl _ _)⟩
                case round =>
                  obtain ⟨qq, vn, hqq, rfl, rfl, HON, HBY⟩ := hrel
                  have hnl := nextL_len 1 ix x c qq
                  by_cases hql : qq < c.length
                  · obtain ⟨go, rfl⟩ := HAO.out qq hql
                    obtain ⟨z0, z1, z2, z3, z4, z5, z6, z7, z8, z9, z10, z11⟩ := (HO3.out.nodAt hql).below HBY.out
                    have HYN := Lib.hid (HO3.out.nodIn hql).1
                    have HKP := Lib.hid (fun h => nextL_keep (kd := 1) (ix := ix) (x := x) (c := c) (q := qq) h)
                    generalize nk c qq = y at *
                    have HBX := Lib.hid ((Below.refl wr.heap.size wr).alloc (Nat.le_refl _) (boxOf y))
                    have HBZ := Lib.hid (nodAt_box wr y 60)
                    have HBYX := Lib.hid (HBY.out.trans (HBX.out.mono HBY.out.size))
                    have HONX := Lib.hid (HON.out.below HBX.out)
                    by_cases hqx : qq = ix
                    · subst hqx
                      have hqd : ((qq : Int) != (qq : Int)) = false := by simp
                      have HGN := Lib.hid (nextL_gone (kd := 1) (ix := qq) (x := x) (c := c) (by decide))
                      have HBR4 := Lib.hid ((HBYX.out.block _ hbxl).trans HBR3.out)
                      obtain ⟨b0, _⟩ := chg_row HBR4.out
                      go_wp2
                      go_roundw
                      case rel => exact ⟨qq + 1, _, by omega, by go_num, rfl, Lib.hid (by rw [HGN.out]; exact HONX.out), HBYX⟩
                      case measure => simp [intOf]; omega
                    · have hqd : ((qq : Int) != ((ix : Nat) : Int)) = true := by rw [bne_iff_ne]; omega
                      have HST := Lib.hid (HKP.out hqx)
                      generalize nextL 1 ix x c qq = cc at *
                      go_upto_region 20 with fail
                      generalize wr.alloc (.cells #[.string y.path, .int .i64 y.kind, .int .i64 y.same, .string y.target, .int .i64 y.mt.mode, .int .i64 y.mt.uid, .int .i64 y.mt.gid, .string y.mt.user, .string y.mt.group, .int .i64 y.mt.second, .int .i64 y.mt.nano, .slice y.da y.data.length y.dcap] 60) = W9 at *
                      obtain ⟨d0, d1, d2, d3, d4, d5, d6, d7, d8, d9, d10, d11⟩ := HBZ.out.zero
                      have HA := Lib.hid ((Below.refl W9.heap.size W9).alloc (Nat.le_refl _) (boxOf y))
                      have HOA := Lib.hid (HONX.out.below HA.out)
                      have HBA := Lib.hid (HBYX.out.trans (HA.out.mono HBYX.out.size))
                      have HNA := Lib.hid (nodIn_arg HYN.out HBA.out HOA.out)
                      have HFIN := Lib.hid (show ∀ v2 w4', w4'.ownsRow w3.heap.size 60 12 v2 (cc.length + 1) (cc.flatMap Nod.cells ++ [y].flatMap Nod.cells) → (W9.alloc (boxOf y)).grownBy w4' vn.ownBlock → (v2.ownBlock = vn.ownBlock ∨ ∃ b, v2.ownBlock = some b ∧ (W9.alloc (boxOf y)).heap.size ≤ b) → OwnNods 60 w4' w3.heap.size v2 (cc ++ [y]) ∧ Below w3.heap.size w3 w4' from
                        fun v2 w4' ho2 hg2 hv2 => ⟨HOA.out.app (m := [y]) (fun y hy => by rw [List.mem_singleton.1 hy]; exact HNA.out) ho2 hg2 hv2, below_app HBA.out hg2 HOA.out.1 HBA.out.size⟩)
                      go_wp2_with (at_builtin; refine wpList_app _ rfl (.tmp 69) (.tmp 71) 22 22 rfl _ _ rfl rfl (fun ty => app_src _ 22 22 ty w3.heap.size 60 i0 _ 12 144 Tryd.underlying22 HI.out.1 HI.out.2.1 HI.out.2.2.1 HI.out.2.2.2 rfl (by decide) _ _ cc.length 1 _ _ HOA.out.1 (src_nod W9 _ _ _ Tryd.underlying22 y) (by unfold maxLen; omega) (by omega) HBA.out.size) ?_; intro v5 w5 ho2 hg2 hv2; have HZ := Lib.hid (HFIN.out v5 w5 ho2 hg2 hv2.2); clear ho2 hg2 hv2)
                      go_wp2
                      go_roundw
                      case rel => exact ⟨qq + 1, _, by omega, by go_num, rfl, Lib.hid (by rw [HST.out]; exact HZ.out.1), Lib.hid HZ.out.2⟩
                      case measure => simp [intOf]; omega
                  · obtain rfl : qq = c.length := by omega
                    have HBR4 := Lib.hid ((HBY.out.block _ hbxl).trans HBR3.out)
                    have HB4 := Lib.hid (HB3.out.trans (HBY.out.mono HB3.out.size))
                    obtain ⟨b0, b1, b2, b3, b4, b5, b6, b7, b8, b9, b10, b11, b12⟩ := chg_row HBR4.out
                    simp only [Nat.reduceAdd] at b0 b1 b2 b3 b4 b5 b6 b7 b8 b9 b10 b11 b12
                    rw [HALL.out] at HON
                    have HO4 := Lib.hid (HON.out.mono HB3.out.size)
                    go_wp2
                    go_roundw
                    case rel => exact ⟨k + 1, _, _, by omega, by go_num, rfl, hln, HO4, HSN, HNX, HB4⟩
                    case measure => simp [intOf]; omega
              · have hltd : decide ((treeFind c x.path : Int) < (c.length : Int)) = true := decide_eq_true (by omega)
                obtain ⟨hu1, hu2⟩ := HBAD.out 6 (applyE_twice rfl hfd) (by decide)
                try simp only at hu1 hu2
                subst hu2
                have HU1 := Lib.hid hu1
                clear hu1 HBAD HNXT
                generalize treeFind c x.path = ix at *
                go_wp2_with fail
                refine HFD.out.mono ?_
                rintro e wq ⟨rfl, rfl⟩
                go_wp2
                go_ret2
                exact ⟨_, [], rfl, OwnNods.nil _ _ _, HU1.out.symm, HB3.out⟩
              · have HE := Lib.hid (applyE_old (o := c) (c := ⟨3, x⟩) (show ¬ ((3 : Int) < 1 ∨ (3 : Int) < 3) by decide) (show ¬ (3 : Int) = 2 by decide) hfd)
                have HP := Lib.hid (applyS_other (o := c) (c := ⟨3, x⟩) (show ¬ (3 : Int) = 1 by decide) (show ¬ (3 : Int) = 2 by decide))
                have HSN := Lib.hid (HS.out.step (c := ⟨3, x⟩) HX.out)
                have hln := applyS_len (o := c) (c := ⟨3, x⟩) hcl1
                have HNX := Lib.hid (HNXT.out _ HE.out rfl)
                rw [HP.out] at HSN hln HNX
                simp only at HSN hln HNX
                have hln : (c.set (treeFind c x.path) x).length ≤ 40 + (k + 1) := by omega
                have HALL := Lib.hid (nextL_all3 (x := x) hfd)
                have hne : (((treeFind c x.path : Nat) : Int) == (c.length : Int)) = false := by rw [beq_eq_false_iff_ne]; omega
                generalize treeFind c x.path = ix at *
                clear HBAD HNXT HE HP HX
                go_wp2_with fail
                refine HFD.out.mono ?_
                rintro e wq ⟨rfl, rfl⟩
                clear HFD
                go_wp2_with fail
                go_loopw [11, 12, 13, 61] (fun v11 _ _ j wy => ∃ (qq : Nat) (vn : Value), qq ≤ c.length ∧ j = .int .i64 (qq : Int) ∧ vn = v11 ∧ Hid (OwnNods 60 wy w3.heap.size vn (nextL 3 ix x c qq)) ∧ Hid (Below w3.heap.size w3 wy)) (fun _ _ _ j _ => c.length - (intOf j).toNat)
                case atStart => exact ⟨0, _, by omega, rfl, rfl, Lib.hid (OwnNods.nil _ _ _), Lib.hid (Below.refl _ _)⟩
                case round =>
                  obtain ⟨qq, vn, hqq, rfl, rfl, HON, HBY⟩ := hrel
                  have hnl := nextL_len 3 ix x c qq
                  by_cases hql : qq < c.length
                  · obtain ⟨go, rfl⟩ := HAO.out qq hql
                    obtain ⟨z0, z1, z2, z3, z4, z5, z6, z7, z8, z9, z10, z11⟩ := (HO3.out.nodAt hql).below HBY.out
                    have HYN := Lib.hid (HO3.out.nodIn hql).1
                    have HKP := Lib.hid (fun h => nextL_keep (kd := 3) (ix := ix) (x := x) (c := c) (q := qq) h)
                    generalize nk c qq = y at *
                    have HBX := Lib.hid ((Below.refl wr.heap.size wr).alloc (Nat.le_refl _) (boxOf y))
                    have HBZ := Lib.hid (nodAt_box wr y 60)
                    have HBYX := Lib.hid (HBY.out.trans (HBX.out.mono HBY.out.size))
                    have HONX := Lib.hid (HON.out.below HBX.out)
                    by_cases hqx : qq = ix
                    · subst hqx
                      have hqd : ((qq : Int) != (qq : Int)) = false := by simp
                      have HST := Lib.hid (nextL_set (ix := qq) (x := x) (c := c))
                      have HBR4 := Lib.hid ((HBYX.out.block _ hbxl).trans HBR3.out)
                      obtain ⟨b0, b1, b2, b3, b4, b5, b6, b7, b8, b9, b10, b11, b12⟩ := chg_row HBR4.out
                      simp only [Nat.reduceAdd] at b0 b1 b2 b3 b4 b5 b6 b7 b8 b9 b10 b11 b12
                      generalize nextL 3 qq x c qq = cc at *
                      go_upto_region 22 with fail
                      generalize wr.alloc (.cells #[.string y.path, .int .i64 y.kind, .int .i64 y.same, .string y.target, .int .i64 y.mt.mode, .int .i64 y.mt.uid, .int .i64 y.mt.gid, .string y.mt.user, .string y.mt.group, .int .i64 y.mt.second, .int .i64 y.mt.nano, .slice y.da y.data.length y.dcap] 60) = W9 at *
                      have HA := Lib.hid ((Below.refl W9.heap.size W9).alloc (Nat.le_refl _) (boxOf x))
                      have HOA := Lib.hid (HONX.out.below HA.out)
                      have HBA := Lib.hid (HBYX.out.trans (HA.out.mono HBYX.out.size))
                      have HNA := Lib.hid (nodIn_arg HN3.out HBA.out HOA.out)
                      have HFIN := Lib.hid (show ∀ v2 w4', w4'.ownsRow w3.heap.size 60 12 v2 (cc.length + 1) (cc.flatMap Nod.cells ++ [x].flatMap Nod.cells) → (W9.alloc (boxOf x)).grownBy w4' vn.ownBlock → (v2.ownBlock = vn.ownBlock ∨ ∃ b, v2.ownBlock = some b ∧ (W9.alloc (boxOf x)).heap.size ≤ b) → OwnNods 60 w4' w3.heap.size v2 (cc ++ [x]) ∧ Below w3.heap.size w3 w4' from
                        fun v2 w4' ho2 hg2 hv2 => ⟨HOA.out.app (m := [x]) (fun y hy => by rw [List.mem_singleton.1 hy]; exact HNA.out) ho2 hg2 hv2, below_app HBA.out hg2 HOA.out.1 HBA.out.size⟩)
                      go_wp2_with (at_builtin; refine wpList_app _ rfl (.tmp 76) (.tmp 79) 22 22 rfl _ _ rfl rfl (fun ty => app_src _ 22 22 ty w3.heap.size 60 i0 _ 12 144 Tryd.underlying22 HI.out.1 HI.out.2.1 HI.out.2.2.1 HI.out.2.2.2 rfl (by decide) _ _ cc.length 1 _ _ HOA.out.1 (src_nod W9 _ _ _ Tryd.underlying22 x) (by unfold maxLen; omega) (by omega) HBA.out.size) ?_; intro v5 w5 ho2 hg2 hv2; have HZ := Lib.hid (HFIN.out v5 w5 ho2 hg2 hv2.2); clear ho2 hg2 hv2)
                      go_wp2
                      go_roundw
                      case rel => exact ⟨qq + 1, _, by omega, by go_num, rfl, Lib.hid (by rw [HST.out]; exact HZ.out.1), Lib.hid HZ.out.2⟩
                      case measure => simp [intOf]; omega
                    · have hqd : ((qq : Int) != ((ix : Nat) : Int)) = true := by rw [bne_iff_ne]; omega
                      have HST := Lib.hid (HKP.out hqx)
                      generalize nextL 3 ix x c qq = cc at *
                      go_upto_region 20 with fail
                      generalize wr.alloc (.cells #[.string y.path, .int .i64 y.kind, .int .i64 y.same, .string y.target, .int .i64 y.mt.mode, .int .i64 y.mt.uid, .int .i64 y.mt.gid, .string y.mt.user, .string y.mt.group, .int .i64 y.mt.second, .int .i64 y.mt.nano, .slice y.da y.data.length y.dcap] 60) = W9 at *
                      obtain ⟨d0, d1, d2, d3, d4, d5, d6, d7, d8, d9, d10, d11⟩ := HBZ.out.zero
                      have HA := Lib.hid ((Below.refl W9.heap.size W9).alloc (Nat.le_refl _) (boxOf y))
                      have HOA := Lib.hid (HONX.out.below HA.out)
                      have HBA := Lib.hid (HBYX.out.trans (HA.out.mono HBYX.out.size))
                      have HNA := Lib.hid (nodIn_arg HYN.out HBA.out HOA.out)
                      have HFIN := Lib.hid (show ∀ v2 w4', w4'.ownsRow w3.heap.size 60 12 v2 (cc.length + 1) (cc.flatMap Nod.cells ++ [y].flatMap Nod.cells) → (W9.alloc (boxOf y)).grownBy w4' vn.ownBlock → (v2.ownBlock = vn.ownBlock ∨ ∃ b, v2.ownBlock = some b ∧ (W9.alloc (boxOf y)).heap.size ≤ b) → OwnNods 60 w4' w3.heap.size v2 (cc ++ [y]) ∧ Below w3.heap.size w3 w4' from
                        fun v2 w4' ho2 hg2 hv2 => ⟨HOA.out.app (m := [y]) (fun y hy => by rw [List.mem_singleton.1 hy]; exact HNA.out) ho2 hg2 hv2, below_app HBA.out hg2 HOA.out.1 HBA.out.size⟩)
                      go_wp2_with (at_builtin; refine wpList_app _ rfl (.tmp 69) (.tmp 71) 22 22 rfl _ _ rfl rfl (fun ty => app_src _ 22 22 ty w3.heap.size 60 i0 _ 12 144 Tryd.underlying22 HI.out.1 HI.out.2.1 HI.out.2.2.1 HI.out.2.2.2 rfl (by decide) _ _ cc.length 1 _ _ HOA.out.1 (src_nod W9 _ _ _ Tryd.underlying22 y) (by unfold maxLen; omega) (by omega) HBA.out.size) ?_; intro v5 w5 ho2 hg2 hv2; have HZ := Lib.hid (HFIN.out v5 w5 ho2 hg2 hv2.2); clear ho2 hg2 hv2)
                      go_wp2
                      go_roundw
                      case rel => exact ⟨qq + 1, _, by omega, by go_num, rfl, Lib.hid (by rw [HST.out]; exact HZ.out.1), Lib.hid HZ.out.2⟩
                      case measure => simp [intOf]; omega
                  · obtain rfl : qq = c.length := by omega
                    have HBR4 := Lib.hid ((HBY.out.block _ hbxl).trans HBR3.out)
                    have HB4 := Lib.hid (HB3.out.trans (HBY.out.mono HB3.out.size))
                    obtain ⟨b0, b1, b2, b3, b4, b5, b6, b7, b8, b9, b10, b11, b12⟩ := chg_row HBR4.out
                    simp only [Nat.reduceAdd] at b0 b1 b2 b3 b4 b5 b6 b7 b8 b9 b10 b11 b12
                    rw [HALL.out] at HON
                    have HO4 := Lib.hid (HON.out.mono HB3.out.size)
                    go_wp2
                    go_roundw
                    case rel => exact ⟨k + 1, _, _, by omega, by go_num, rfl, hln, HO4, HSN, HNX, HB4⟩
                    case measure => simp [intOf]; omega
            · have hie : treeFind c x.path = c.length := Nat.le_antisymm (treeFind_le _ _) (Nat.le_of_not_lt hfd)
              rcases (show kd = 1 ∨ kd = 2 ∨ kd = 3 by omega) with rfl | rfl | rfl
              · obtain ⟨hu1, hu2⟩ := HBAD.out 5 (applyE_none (show ¬ ((1 : Int) < 1 ∨ (3 : Int) < 1) by decide) (show ¬ (1 : Int) = 2 by decide) hfd) (by decide)
                try simp only at hu1 hu2
                subst hu2
                have HU1 := Lib.hid hu1
                rw [hie] at HFD
                clear hu1 HBAD HNXT hie hfd
                go_wp2_with fail
                refine HFD.out.mono ?_
                rintro e wq ⟨rfl, rfl⟩
                go_wp2
                go_ret2
                exact ⟨_, [], rfl, OwnNods.nil _ _ _, HU1.out.symm, HB3.out⟩
              · have HE := Lib.hid (applyE_new (o := c) (c := ⟨2, x⟩) rfl hfd)
                have HP := Lib.hid (applyS_new (o := c) (c := ⟨2, x⟩) rfl)
                have HSN := Lib.hid (HS.out.step (c := ⟨2, x⟩) HX.out)
                have hln := applyS_len (o := c) (c := ⟨2, x⟩) hcl1
                have HNX := Lib.hid (fun p hp => HNXT.out p HE.out hp)
                rw [HP.out] at HSN hln HNX
                simp only at HSN hln HNX
                have HALL := Lib.hid (nextL_all2 (x := x) (c := c))
                have HSC := Lib.hid (show NodsShort (c ++ [x]) from fun y hy => HSN.out y (isort_mem.2 hy))
                have HDD := Lib.hid HSC.out.dat
                have HPP := Lib.hid (fun i (hi : i < (c ++ [x]).length) => HSC.out.paths.at hi)
                rw [hie] at HFD
                clear HBAD HNXT HE HP HX hie hfd
                go_wp2_with fail
                refine HFD.out.mono ?_
                rintro e wq ⟨rfl, rfl⟩
                clear HFD
                go_wp2_with fail
                go_loopw [11, 12, 13, 61] (fun v11 _ _ j wy => ∃ (qq : Nat) (vn : Value), qq ≤ c.length ∧ j = .int .i64 (qq : Int) ∧ vn = v11 ∧ Hid (OwnNods 60 wy w3.heap.size vn (nextL 2 c.length x c qq)) ∧ Hid (Below w3.heap.size w3 wy)) (fun _ _ _ j _ => c.length - (intOf j).toNat)
                case atStart => exact ⟨0, _, by omega, rfl, rfl, Lib.hid (OwnNods.nil _ _ _), Lib.hid (Below.refl _ _)⟩
                case round =>
                  obtain ⟨qq, vn, hqq, rfl, rfl, HON, HBY⟩ := hrel
                  have hnl := nextL_len 2 c.length x c qq
                  by_cases hql : qq < c.length
                  · obtain ⟨go, rfl⟩ := HAO.out qq hql
                    obtain ⟨z0, z1, z2, z3, z4, z5, z6, z7, z8, z9, z10, z11⟩ := (HO3.out.nodAt hql).below HBY.out
                    have HYN := Lib.hid (HO3.out.nodIn hql).1
                    have HKP := Lib.hid (fun h => nextL_keep (kd := 2) (ix := c.length) (x := x) (c := c) (q := qq) h)
                    generalize nk c qq = y at *
                    have HBX := Lib.hid ((Below.refl wr.heap.size wr).alloc (Nat.le_refl _) (boxOf y))
                    have HBZ := Lib.hid (nodAt_box wr y 60)
                    have HBYX := Lib.hid (HBY.out.trans (HBX.out.mono HBY.out.size))
                    have HONX := Lib.hid (HON.out.below HBX.out)
                    have hqd : ((qq : Int) != ((c.length : Nat) : Int)) = true := by rw [bne_iff_ne]; omega
                    have HST := Lib.hid (HKP.out (by omega))
                    generalize nextL 2 c.length x c qq = cc at *
                    go_upto_region 20 with fail
                    generalize wr.alloc (.cells #[.string y.path, .int .i64 y.kind, .int .i64 y.same, .string y.target, .int .i64 y.mt.mode, .int .i64 y.mt.uid, .int .i64 y.mt.gid, .string y.mt.user, .string y.mt.group, .int .i64 y.mt.second, .int .i64 y.mt.nano, .slice y.da y.data.length y.dcap] 60) = W9 at *
                    obtain ⟨d0, d1, d2, d3, d4, d5, d6, d7, d8, d9, d10, d11⟩ := HBZ.out.zero
                    have HA := Lib.hid ((Below.refl W9.heap.size W9).alloc (Nat.le_refl _) (boxOf y))
                    have HOA := Lib.hid (HONX.out.below HA.out)
                    have HBA := Lib.hid (HBYX.out.trans (HA.out.mono HBYX.out.size))
                    have HNA := Lib.hid (nodIn_arg HYN.out HBA.out HOA.out)
                    have HFIN := Lib.hid (show ∀ v2 w4', w4'.ownsRow w3.heap.size 60 12 v2 (cc.length + 1) (cc.flatMap Nod.cells ++ [y].flatMap Nod.cells) → (W9.alloc (boxOf y)).grownBy w4' vn.ownBlock → (v2.ownBlock = vn.ownBlock ∨ ∃ b, v2.ownBlock = some b ∧ (W9.alloc (boxOf y)).heap.size ≤ b) → OwnNods 60 w4' w3.heap.size v2 (cc ++ [y]) ∧ Below w3.heap.size w3 w4' from
                      fun v2 w4' ho2 hg2 hv2 => ⟨HOA.out.app (m := [y]) (fun y hy => by rw [List.mem_singleton.1 hy]; exact HNA.out) ho2 hg2 hv2, below_app HBA.out hg2 HOA.out.1 HBA.out.size⟩)
                    go_wp2_with (at_builtin; refine wpList_app _ rfl (.tmp 69) (.tmp 71) 22 22 rfl _ _ rfl rfl (fun ty => app_src _ 22 22 ty w3.heap.size 60 i0 _ 12 144 Tryd.underlying22 HI.out.1 HI.out.2.1 HI.out.2.2.1 HI.out.2.2.2 rfl (by decide) _ _ cc.length 1 _ _ HOA.out.1 (src_nod W9 _ _ _ Tryd.underlying22 y) (by unfold maxLen; omega) (by omega) HBA.out.size) ?_; intro v5 w5 ho2 hg2 hv2; have HZ := Lib.hid (HFIN.out v5 w5 ho2 hg2 hv2.2); clear ho2 hg2 hv2)
                    go_wp2
                    go_roundw
                    case rel => exact ⟨qq + 1, _, by omega, by go_num, rfl, Lib.hid (by rw [HST.out]; exact HZ.out.1), Lib.hid HZ.out.2⟩
                    case measure => simp [intOf]; omega
                  · obtain rfl : qq = c.length := by omega
                    have HBR4 := Lib.hid ((HBY.out.block _ hbxl).trans HBR3.out)
                    have HB4 := Lib.hid (HB3.out.trans (HBY.out.mono HB3.out.size))
                    obtain ⟨b0, b1, b2, b3, b4, b5, b6, b7, b8, b9, b10, b11, b12⟩ := chg_row HBR4.out
                    simp only [Nat.reduceAdd] at b0 b1 b2 b3 b4 b5 b6 b7 b8 b9 b10 b11 b12
                    rw [HALL.out] at HON
                    obtain ⟨W9, hW9⟩ : ∃ W : World, W = wr := ⟨_, rfl⟩
                    subst hW9
                    have HA := Lib.hid ((Below.refl W9.heap.size W9).alloc (Nat.le_refl _) (boxOf x))
                    have HOA := Lib.hid (HON.out.below HA.out)
                    have HBA := Lib.hid (HBY.out.trans (HA.out.mono HBY.out.size))
                    have HNA := Lib.hid (nodIn_arg HN3.out HBA.out HOA.out)
                    have HFIN := Lib.hid (show ∀ v2 w4', w4'.ownsRow w3.heap.size 60 12 v2 (c.length + 1) (c.flatMap Nod.cells ++ [x].flatMap Nod.cells) → (W9.alloc (boxOf x)).grownBy w4' vn.ownBlock → (v2.ownBlock = vn.ownBlock ∨ ∃ b, v2.ownBlock = some b ∧ (W9.alloc (boxOf x)).heap.size ≤ b) → OwnNods 60 w4' w3.heap.size v2 (c ++ [x]) ∧ Below w3.heap.size w3 w4' from
                      fun v2 w4' ho2 hg2 hv2 => ⟨HOA.out.app (m := [x]) (fun y hy => by rw [List.mem_singleton.1 hy]; exact HNA.out) ho2 hg2 hv2, below_app HBA.out hg2 HOA.out.1 HBA.out.size⟩)
                    go_wp2_with (at_builtin; refine wpList_app _ rfl (.tmp 85) (.tmp 88) 22 22 rfl _ _ rfl rfl (fun ty => app_src _ 22 22 ty w3.heap.size 60 i0 _ 12 144 Tryd.underlying22 HI.out.1 HI.out.2.1 HI.out.2.2.1 HI.out.2.2.2 rfl (by decide) _ _ c.length 1 _ _ HOA.out.1 (src_nod W9 _ _ _ Tryd.underlying22 x) (by unfold maxLen; omega) (by omega) HBA.out.size) ?_; intro v5 w5 ho2 hg2 hv2; have HZ := Lib.hid (HFIN.out v5 w5 ho2 hg2 hv2.2); clear ho2 hg2 hv2)
                    have HB5 := Lib.hid (HB3.out.trans (HZ.out.2.mono HB3.out.size))
                    have HSO := Lib.hid (IsortR_any v5 (c ++ [x]) w5 (HZ.out.1.slice (by rw [List.length_append]; unfold maxLen; simp; omega)) (by rw [List.length_append]; simp; omega) HDD.out HPP.out)
                    go_wp2_with fail
                    refine HSO.out.mono ?_
                    rintro e w6 ⟨v6, c6, rfl, ho, hc, hb⟩
                    have HB6 := Lib.hid (HB5.out.trans (hb.mono HB5.out.size))
                    have HO6 := Lib.hid (ho.mono HB5.out.size)
                    have HNZ := Lib.hid (HNX.out _ hc)
                    have HSZ := Lib.hid (HSN.out.bare hc)
                    have hlz : c6.length ≤ 40 + (k + 1) := by rw [bare_len hc]; omega
                    clear ho hc hb
                    go_wp2
                    go_roundw
                    case rel => exact ⟨k + 1, _, c6, by omega, by go_num, rfl, hlz, HO6, HSZ, HNZ, HB6⟩
                    case measure => simp [intOf]; omega
              · obtain ⟨hu1, hu2⟩ := HBAD.out 5 (applyE_none (show ¬ ((3 : Int) < 1 ∨ (3 : Int) < 3) by decide) (show ¬ (3 : Int) = 2 by decide) hfd) (by decide)
                try simp only at hu1 hu2
                subst hu2
                have HU1 := Lib.hid hu1
                rw [hie] at HFD
                clear hu1 HBAD HNXT hie hfd
                go_wp2_with fail
                refine HFD.out.mono ?_
                rintro e wq ⟨rfl, rfl⟩
                go_wp2
                go_ret2
                exact ⟨_, [], rfl, OwnNods.nil _ _ _, HU1.out.symm, HB3.out⟩
      · obtain rfl : k = l.length := by omega
        have HTC := Lib.hid (TreeFault_any _ c wr (HO.out.slice (by unfold maxLen; omega)))
        go_wp2_with fail
        refine HTC.out.mono ?_
        rintro e w3 ⟨rfl, hb⟩
        have HB3 := Lib.hid (HB.out.trans (hb.mono HB.out.size))
        have HO3 := Lib.hid (HO.out.below hb)
        clear hb HTC
        by_cases hz : treeFault c = 0
        · have hzq : (treeFault c != 0) = false := by rw [hz]; rfl
          obtain ⟨hu1, hu2⟩ := HG.out.done_ok hz
          try simp only at hu1 hu2
          subst hu2
          have HU1 := Lib.hid hu1
          have HCP := Lib.hid (CopyR_any _ c w3 (HO3.out.slice (by unfold maxLen; omega)) (by omega) HS.out.dat)
          clear hu1 HG hz
          go_wp2_with fail
          refine HCP.out.mono ?_
          rintro e w4 ⟨v4, c4, rfl, ho, hc, hb⟩
          have HB4 := Lib.hid (HB3.out.trans (hb.mono HB3.out.size))
          have HO4 := Lib.hid (ho.mono HB3.out.size)
          have HC4 := Lib.hid (hc.trans HU1.out.symm)
          clear ho hc hb
          go_wp2
          go_ret2
          exact ⟨_, c4, rfl, HO4.out, HC4.out, HB4.out⟩
        · have hzq : (treeFault c != 0) = true := by rw [bne_iff_ne]; exact hz
          obtain ⟨hu1, hu2⟩ := HG.out.done_bad hz
          try simp only at hu1 hu2
          subst hu2
          have HU1 := Lib.hid hu1
          clear hu1 HG hz
          go_wp2
          go_ret2
          exact ⟨_, [], rfl, OwnNods.nil _ _ _, HU1.out.symm, HB3.out⟩
  · have hq : (treeFault t != 0) = true := by rw [bne_iff_ne]; exact hf
    have HF := Lib.hid (HQ1.out hf)
    clear HQ1 HQ2 hf
    go_wp2
    go_ret2
    rw [HF.out]
    exact ⟨_, [], rfl, OwnNods.nil _ _ _, rfl, HB1.out⟩
open Go.Creel Go.RowKit
theorem maxOk_of (w : World) (h : w.ShapedOpen Tryd.prog) : MaxOk w := by
  have hc : ∃ m, w.cell? ⟨0, 0, none⟩ = some (.int .i64 m) :=
    Go.Proofs.cell_of_shapedOpen_int (zero := #[.int .i64 0]) (t := 3) h (of_decide_eq_true (by kernel_rfl)) (by kernel_rfl) rfl (by kernel_rfl) (by kernel_rfl) Tryd.underlying3
  refine ⟨?_, hc⟩
  obtain ⟨m, hm⟩ := hc
  rcases Nat.lt_or_ge 0 w.heap.size with h0 | h0
  · exact h0
  · unfold World.cell? at hm
    rw [Array.getElem?_eq_none (by simpa using h0)] at hm
    simp at hm
end Go.Proofs.YtaffgndickdbiaaDoor
namespace Go.Creel
def dcells : Nat → DataW Unit → List Value
  | 0, _ => []
  | _ + 1, .lit (.int k n) => [.int k n]
  | m + 1, .agg ps => ps.flatMap (dcells m)
  | _ + 1, _ => []
def layAll (w : World) (l : List (Nat × DataW Unit)) : World :=
  { w with heap := l.foldl (fun h x => h.modify x.1 fun
    | .cells _ t fr => .cells (dcells 4 x.2).toArray t fr
    | o => o) w.heap }
end Go.Creel
namespace Go.Proofs.YtaffgndickdbiaaDoor
open Go.Creel
def bulkS (H : Type) (d : DataW H) : Prop := Rows.uptoBulk d ≤ 1048576
theorem bulk_one {H : Type} (d : DataW H) : 1 ≤ Rows.uptoBulk d := by
  cases d with
  | lit l => cases l <;> simp [Rows.uptoBulk]
  | nil => simp [Rows.uptoBulk]
  | ptr d => simp [Rows.uptoBulk]
  | slice elems spare => simp [Rows.uptoBulk]
  | agg parts => simp [Rows.uptoBulk]
  | iface t d => simp [Rows.uptoBulk]
  | map entries => simp [Rows.uptoBulk]
  | held h => simp [Rows.uptoBulk]
theorem bulk_part {H : Type} {d : DataW H} {l : List (DataW H)} (h : d ∈ l) : Rows.uptoBulk d ≤ Rows.uptoBulkAll l := by
  induction l with
  | nil => cases h
  | cons x r ih =>
    simp only [Rows.uptoBulkAll]
    cases List.mem_cons.1 h with
    | inl e => subst e; omega
    | inr e => have := ih e; omega
theorem bulk_length {H : Type} (l : List (DataW H)) : l.length ≤ Rows.uptoBulkAll l := by
  induction l with
  | nil => simp [Rows.uptoBulkAll]
  | cons x r ih => have := bulk_one x; simp only [Rows.uptoBulkAll, List.length_cons]; omega
theorem bulk_bd (H : Type) : Bd H (bulkS H) 1048576 where
  str l h _ := by
    simp only [bulkS, Rows.uptoBulk] at h
    omega
  slc el sp h _ := by
    simp only [bulkS, Rows.uptoBulk] at h
    have := bulk_length el
    exact ⟨by omega, fun d hd => by have := bulk_part hd; unfold bulkS; omega⟩
  agg ps h d hd := by
    simp only [bulkS, Rows.uptoBulk] at h
    have := bulk_part hd
    unfold bulkS; omega
theorem bulk_mem {H : Type} {ds : List (DataW H)} {d : DataW H} (hk : Rows.uptoSmall H ds = true) (h : d ∈ ds) : bulkS H d := by
  have h1 : Rows.uptoBulkAll ds ≤ 1048576 := of_decide_eq_true hk
  have := bulk_part h
  unfold bulkS; omega
end Go.Proofs.YtaffgndickdbiaaDoor
