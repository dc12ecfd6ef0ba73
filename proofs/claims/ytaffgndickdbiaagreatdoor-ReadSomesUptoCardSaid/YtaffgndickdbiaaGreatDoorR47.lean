/-
  Texts: SomeR, EntsFault, Compare.
-/
import Derived.Test.YtaffgndickdbiaaGreatDoorR46
set_option linter.unusedVariables false
set_option linter.unusedSimpArgs false
set_option linter.unusedSectionVars false
namespace Go.Proofs.YtaffgndickdbiaaGreatDoor
open Go.Creel Go.RowKit
set_option maxRecDepth 100000 in
set_option maxHeartbeats 2000000 in
theorem SomeR_any (v : Value) (b : List UInt8) (w : World) (h : SliceC maxLen 1 ByteC w [v] b) (hbl : b.length ≤ 1048576) (hM : MaxOk w) (hE : ErrsOk w) (hT : Pow10 w) :
    Calls Tryz.prog 27 #[v] w (RetSome 26 w (someOf b)) := by
  obtain ⟨a, cap, hv, hcp⟩ := bytes_form h
  subst hv
  obtain ⟨i0, hi, hz0, hz1, hz2⟩ := info_parts info_entry2
  have HI := Lib.hid (And.intro hi (And.intro hz0 (And.intro hz1 hz2)))
  have hs2 : ∀ (k : Nat), k ≤ b.length → ∀ W : World, (Instr.slice 24 (.slice a b.length cap) (some (.int .i64 (k : Int))) none none).run Tryz.prog W = .ok (sliced a k b.length cap 1) W := fun k hk W => run_dropB W a b.length cap k hk hcp
  have HS2 := Lib.hid hs2
  have HDR := Lib.hid (fun k (hk : k ≤ b.length) => bytes_drop (i := k) h hk)
  have HGET := Lib.hid (fun (v2 : Value) (b2 : List UInt8) (W : World) (h2 : SliceC maxLen 1 ByteC W [v2] b2) (hl : b2.length ≤ 1048576) (hb : Below w.heap.size w W) => MemO_any v2 b2 W h2 hl (hE.below hb) (hT.below hb))
  have HMID := Lib.hid (fun k (hk : k + 512 ≤ b.length) => bytes_mid (i := k) (j := k + 512) h (by omega) hk)
  have HSO : Hid (someOf b = someGo b (b.length + 1) 0 []) := Lib.hid rfl
  generalize someOf b = so at *
  clear h hM hE hT hi hz0 hz1 hz2 hs2
  go_enter Tryz.func27, Tryz.ntmps27
  go_wp2_with fail
  go_loopw [5, 6, 7, 8, 9] (fun u5 u6 _ _ _ wr => ∃ (k f : Nat) (acc acc' : List Ent), k ≤ b.length ∧ u6 = .int .i64 (k : Int) ∧ b.length ≤ f + k ∧ acc.length * 512 ≤ k ∧ Hid (so = someGo b (f + 1) k acc) ∧ Hid (acc'.map Ent.bare = acc.map Ent.bare) ∧ Hid (∀ x ∈ acc', ∀ p, x.da = some p → w.heap.size ≤ p.block) ∧ Hid (OwnEnts 26 wr w.heap.size u5 acc') ∧ Hid (Below w.heap.size w wr)) (fun _ u6 _ _ _ _ => b.length - (intOf u6).toNat)
  case atStart => exact ⟨0, b.length, [], [], by omega, rfl, by omega, by simp, HSO, Lib.hid rfl, Lib.hid (fun x hx => absurd hx (by simp)), Lib.hid (OwnEnts.nil _ _ _), Lib.hid (Below.refl _ _)⟩
  case round =>
    obtain ⟨k, f, acc, acc', hk, rfl, hfk, hal, HSG, HBR, HPL, HOW, HB⟩ := hrel
    obtain ⟨vv, rfl⟩ : ∃ V : Value, V = u5 := ⟨_, rfl⟩
    have hlen : acc'.length = acc.length := bareE_len HBR.out
    obtain ⟨ak, ck, hsk, hcpk⟩ := bytes_form (HDR.out k hk)
    have hsl2 : ∀ W : World, (Instr.slice 24 (.slice a b.length cap) (some (.int .i64 (k : Int))) none none).run Tryz.prog W = .ok (.slice ak (b.drop k).length ck) W := fun W => by rw [← hsk]; exact HS2.out k hk W
    have HD := HDR.out k hk
    rw [hsk] at HD
    obtain ⟨bk, hbk⟩ : ∃ bk, bk = b.drop k := ⟨_, rfl⟩
    have HQ1 := Lib.hid (fun h => HSG.out.trans (someGo_short (b := b) (f := f) (k := k) (acc := acc) h))
    have HQ2 := Lib.hid (fun h h2 => HSG.out.trans (someGo_zero (b := b) (f := f) (k := k) (acc := acc) h h2))
    have HQ3 := Lib.hid (fun h h2 x n e h3 he => HSG.out.trans (someGo_bad (b := b) (f := f) (k := k) (acc := acc) h h2 (x := x) (n := n) (e := e) h3 he))
    have HQ4 := Lib.hid (fun h h2 x n h3 => HSG.out.trans (someGo_step (b := b) (f := f) (k := k) (acc := acc) h h2 (x := x) (n := n) h3))
    have hbl2 : bk.length + k = b.length := by rw [hbk, List.length_drop]; omega
    rw [← hbk] at HQ1 HQ2 HQ3 HQ4 HD hsl2 hcpk
    have HBK := Lib.hid hbk
    clear hsk hbk HSG
    by_cases hsh : bk.length < 512
    · have hd : decide (((k : Int) + 512) ≤ (b.length : Int)) = false := by rw [decide_eq_false_iff_not]; omega
      have HQ := Lib.hid (HQ1.out hsh)
      clear HQ1 HQ2 HQ3 HQ4 hsh
      go_wp2
      go_ret3
      rw [HQ.out]
      exact ⟨_, acc', rfl, HOW.out, HBR.out, by omega, HPL.out, HB.out⟩
    · have hd : decide (((k : Int) + 512) ≤ (b.length : Int)) = true := by rw [decide_eq_true_iff]; omega
      have hk5 : k + 512 ≤ b.length := by omega
      have hnum : ((k : Int) + 512) = ((k + 512 : Nat) : Int) := by omega
      have hwr : IntKind.i64.wrap ((k : Int) + 512) = (k : Int) + 512 := by rw [IntKind.wrap_i64]; omega
      have hmid := HMID.out k hk5
      rw [← HBK.out, show k + 512 - k = 512 by omega] at hmid
      have hck : ¬ cap = k := by omega
      have hmid2 : SliceC maxLen 1 ByteC w [.slice (a.map (fun x => x.add k)) 512 (cap - k)] (bk.take 512) := by
        have h9 := hmid
        unfold sliced at h9
        rw [if_neg hck, show k + 512 - k = 512 by omega, Nat.mul_one] at h9
        exact h9
      have hn1 : (0 : Int) ≤ (k : Int) + 512 := by omega
      have hn2 : (k : Int) + 512 ≤ (cap : Int) := by omega
      have hn3 : ((k : Int) + 512).toNat = k + 512 := by omega
      have hn4 : k ≤ k + 512 := by omega
      have hn5 : k + 512 - k = 512 := by omega
      have hbd : ∀ n, Below wr.heap.size wr (wr.drewN n) := fun n => ⟨rfl, rfl, rfl, Nat.le_refl _, fun _ _ => rfl⟩
      have hcv := fun n => conv (wr.drewN n) (bytesBelow hmid2 (HB.out.trans ((hbd n).mono HB.out.size)))
      have HBD := Lib.hid hbd
      have HZR := Lib.hid (fun n => zeros_any 512 (wr.drewN n) (by decide) (by decide))
      have hzs : zerosS (512 : Int).toNat = ofL (zeroN 512) := rfl
      rw [hzs] at HZR
      clear hmid hmid2 hnum hbd hzs
      by_cases hz : bk.take 512 = zeroN 512
      · have HQ := Lib.hid (HQ2.out hsh hz)
        have hcmp := sofs_eq hz
        clear HQ1 HQ2 HQ3 HQ4 hsh hz
        go_upto_region 4 with fail
        go_quiet ((go_at_call 60; exact quiet_same (HZR.out _)))
        go_wp2
        go_ret3
        rw [HQ.out]
        exact ⟨_, acc', rfl, HOW.out.below (HBD.out _), HBR.out, by omega, HPL.out, HB.out.trans ((HBD.out _).mono HB.out.size)⟩
      · have hcmp := sofs_ne hz
        go_upto_region 4 with fail
        go_quiet ((go_at_call 60; exact quiet_same (HZR.out _)))
        have HBQ := Lib.hid (HB.out.trans ((HBD.out nq).mono HB.out.size))
        have HOQ := Lib.hid (HOW.out.below (HBD.out nq))
        clear HZR hcv hcmp HBD
        generalize wr.drewN nq = wq at *
        have HDW := Lib.hid (bytesBelow HD HBQ.out)
        have HCALL := Lib.hid (HGET.out (.slice ak bk.length ck) bk wq HDW.out (by omega) HBQ.out)
        obtain ⟨⟨y, n, e0⟩, hmo⟩ : ∃ q, memOf bk = q := ⟨_, rfl⟩
        have HRNG := Lib.hid (fun he => memOf_rng (b := bk) he)
        rw [hmo] at HCALL HRNG
        simp only at HRNG
        go_wp2_with fail
        refine HCALL.out.mono ?_
        rintro e w2 ⟨x, rfl, hx, hb2⟩
        have HB2 := Lib.hid (HBQ.out.trans (hb2.mono HBQ.out.size))
        have HX := Lib.hid hx
        have HBB := Lib.hid hb2
        have HO2 := Lib.hid (HOQ.out.below hb2)
        clear hx hb2 HCALL
        by_cases he : e0 = 0
        · subst he
          obtain ⟨m, hm, hm1, hm2⟩ := HRNG.out rfl
          (try simp only at hm)
          subst hm
          have HQ := Lib.hid (HQ4.out hsh hz _ _ hmo)
          clear HQ1 HQ2 HQ3 HQ4 HRNG hsh hz hmo
          go_upto_region 9 with fail
          have HA1 := Lib.hid ((Below.refl w2.heap.size w2).alloc (Nat.le_refl _) (.cells #[.string x.path, .int .i64 x.kind, .string x.target, .int .i64 x.mt.mode, .int .i64 x.mt.uid, .int .i64 x.mt.gid, .string x.mt.user, .string x.mt.group, .int .i64 x.mt.second, .int .i64 x.mt.nano, .slice x.da x.data.length x.dcap] 26))
          have HBX : Hid ((w2.alloc (.cells #[.string x.path, .int .i64 x.kind, .string x.target, .int .i64 x.mt.mode, .int .i64 x.mt.uid, .int .i64 x.mt.gid, .string x.mt.user, .string x.mt.group, .int .i64 x.mt.second, .int .i64 x.mt.nano, .slice x.da x.data.length x.dcap] 26)).heap[w2.heap.size]? = some (.cells #[.string x.path, .int .i64 x.kind, .string x.target, .int .i64 x.mt.mode, .int .i64 x.mt.uid, .int .i64 x.mt.gid, .string x.mt.user, .string x.mt.group, .int .i64 x.mt.second, .int .i64 x.mt.nano, .slice x.da x.data.length x.dcap] 26 (0, 0))) := Lib.hid (heap_alloc_new _ _)
          generalize w2.alloc (.cells #[.string x.path, .int .i64 x.kind, .string x.target, .int .i64 x.mt.mode, .int .i64 x.mt.uid, .int .i64 x.mt.gid, .string x.mt.user, .string x.mt.group, .int .i64 x.mt.second, .int .i64 x.mt.nano, .slice x.da x.data.length x.dcap] 26) = W at *
          have HBW2 := Lib.hid (HB2.out.trans (HA1.out.mono HB2.out.size))
          obtain ⟨c0, c1, c2, c3, c4, c5, c6, c7, c8, c9, c10⟩ := cells11 HBX.out
          have HA := Lib.hid (HBW2.out.alloc HBW2.out.size (boxE2 x))
          have HWA := Lib.hid ((Below.refl W.heap.size W).alloc (Nat.le_refl _) (boxE2 x))
          have HO3 := Lib.hid ((HO2.out.below HA1.out).below HWA.out)
          have HN3 := Lib.hid (entIn_out HX.out (HA1.out.trans (HWA.out.mono HA1.out.size)) HOQ.out)
          go_wp2_with (at_builtin; refine wpList_app _ rfl (.tmp 38) (.tmp 40) 32 32 rfl _ _ rfl rfl (fun ty => app_src _ 32 32 ty w.heap.size 26 i0 _ 11 136 Tryz.underlying32 HI.out.1 HI.out.2.1 HI.out.2.2.1 HI.out.2.2.2 rfl (by decide) _ _ acc'.length 1 _ _ HO3.out.1 (src_ent W _ _ _ Tryz.underlying32 x) (by unfold maxLen; omega) (by omega) HA.out.size) ?_; intro v3 w5 ho2 hg2 hv2; have HZ := Lib.hid (And.intro ho2 (And.intro hg2 hv2.2)); clear ho2 hg2 hv2)
          have HO4 := Lib.hid (HO3.out.app (m := [x]) (fun z hz => by rw [List.mem_singleton.1 hz]; exact HN3.out) HZ.out.1 HZ.out.2.1 HZ.out.2.2)
          have HB4 := Lib.hid (below_app HA.out HZ.out.2.1 HO3.out.1 HA.out.size)
          obtain ⟨f2, rfl⟩ : ∃ f2, f = f2 + 1 := ⟨f - 1, by omega⟩
          go_wp2
          go_roundw
          case rel => exact ⟨k + m, f2, acc ++ [y], acc' ++ [x], by omega, by go_num, by omega, by simp only [List.length_append, List.length_cons, List.length_nil]; omega, HQ, Lib.hid (by rw [List.map_append, List.map_append, HBR.out]; congr 1; simp only [List.map_cons, List.map_nil]; rw [HX.out.1]), Lib.hid (fun z hz p hp => by
            rcases List.mem_append.1 hz with h | h
            · exact HPL.out z h p hp
            · rw [List.mem_singleton.1 h] at hp; exact Nat.le_trans HBQ.out.size (HX.out.2.2 p hp)), HO4, HB4⟩
          case measure => simp [intOf]; omega
        · have hq : (e0 != 0) = true := by rw [bne_iff_ne]; exact he
          have HQ := Lib.hid (HQ3.out hsh hz _ _ _ hmo he)
          have HBF := Lib.hid (HB2.out.alloc HB2.out.size (.cells #[.string x.path, .int .i64 x.kind, .string x.target, .int .i64 x.mt.mode, .int .i64 x.mt.uid, .int .i64 x.mt.gid, .string x.mt.user, .string x.mt.group, .int .i64 x.mt.second, .int .i64 x.mt.nano, .slice x.da x.data.length x.dcap] 26))
          have HOF := Lib.hid (HO2.out.below ((Below.refl w2.heap.size w2).alloc (Nat.le_refl _) (.cells #[.string x.path, .int .i64 x.kind, .string x.target, .int .i64 x.mt.mode, .int .i64 x.mt.uid, .int .i64 x.mt.gid, .string x.mt.user, .string x.mt.group, .int .i64 x.mt.second, .int .i64 x.mt.nano, .slice x.da x.data.length x.dcap] 26)))
          clear HQ1 HQ2 HQ3 HQ4 HRNG hsh hz hmo he
          go_wp2
          go_ret3
          rw [HQ.out]
          exact ⟨_, acc', rfl, HOF.out, HBR.out, by omega, HPL.out, HBF.out⟩
open Go.Creel Go.RowKit
theorem entF_call (x : Ent) (w : World) (h : x.Ok maxLen w) : Calls Tryz.prog 101 #[x.val] w fun e w' => e = .returned (.int .i64 (entFault x)) ∧ Below w.heap.size w w' :=
  EntryFault_any x w h.path h.target h.mt (by obtain ⟨_, _, _, _, _, h, _⟩ := h.data; exact h) h.kind (Nat.le_refl _)
set_option maxRecDepth 100000 in
set_option maxHeartbeats 4000000 in
theorem EntsFault_at (b off cap : Nat) (l : List Ent) (w : World) (hpos : 0 < l.length) (hle : l.length ≤ cap) (hm : cap ≤ maxLen) (hc : EntsAt w b off l) (ho : ∀ i, i < l.length → (ek l i).Ok maxLen w) :
    Calls Tryz.prog 48 #[.slice (some ⟨b, off, none⟩) l.length cap] w fun e w' => e = .returned (.int .i64 (entsFault l)) ∧ Below w.heap.size w w' := by
  have hm' := hm
  unfold maxLen at hm
  have HC := Lib.hid hc
  have HO := Lib.hid ho
  have HCAP := Lib.hid hm'
  clear hc ho hm'
  by_cases hmany : 40 < l.length
  · have HF := Lib.hid (entsFault_many hmany)
    go_enter Tryz.func48, Tryz.ntmps48
    go_wp2
    go_ret
    exact ⟨ret_i HF.out, Below.refl _ _⟩
  have hfew : l.length ≤ 40 := by omega
  clear hmany
  go_enter Tryz.func48, Tryz.ntmps48
  go_wp2
  go_loopw [3, 4, 5, 6, 7, 8, 9, 15] (fun _ _ _ _ _ _ _ i wr => ∃ k : Nat, k ≤ l.length ∧ i = .int .i64 k ∧ Hid (∀ j, j < k → stepE l j = 0) ∧ Hid (Below w.heap.size w wr)) (fun _ _ _ _ _ _ _ i _ => l.length - (intOf i).toNat)
  case atStart => exact ⟨0, by omega, rfl, Lib.hid fun j hj => absurd hj (by omega), Lib.hid (Below.refl _ _)⟩
  case round =>
    obtain ⟨k, hk, rfl, HZ, HB⟩ := hrel
    by_cases hlt : k < l.length
    · obtain ⟨h0, h1, h2, h3, h4, h5, h6, h7, h8, h9, h10⟩ := (HC.out.below HB.out) k hlt
      have HX := Lib.hid ((HO.out k hlt).below HB.out)
      have HAT := Lib.hid (fun e => entsFault_at (e := e) hfew hlt HZ.out)
      by_cases hA : entFault (ek l k) = 0
      · have HA := Lib.hid hA
        clear hA
        go_wp2_with fail
        have HBX := Lib.hid (entAt_box wr (ek l k) 26)
        refine (entF_call _ _ (HX.out.below ((Below.refl _ _).alloc (Nat.le_refl _) _))).mono ?_
        rintro e w1 ⟨rfl, hb⟩
        have HB1 := Lib.hid ((HB.out.alloc HB.out.size _).trans (hb.mono (by simp; exact Nat.le_succ_of_le HB.out.size)))
        have HBX1 := Lib.hid (HBX.out.below hb)
        rw [HA.out]
        clear hb h0 h1 h2 h3 h4 h5 h6 h7 h8 h9 h10
        generalize wr.heap.size = bx at *
        obtain ⟨g0, g1, g2, g3, g4, g5, g6, g7, g8, g9, g10⟩ := HBX1.out.zero
        have HPZ := Lib.hid (fun (j : Nat) (hj : j ≤ k) => show (ek l j).path.size ≤ 1048576 from Nat.le_trans (entFault_path (by
          rcases Nat.lt_or_ge j k with h | h
          · exact (stepE_zero (HZ.out j h)).1
          · rw [show j = k by omega]; exact HA.out)) (by decide))
        go_upto_region 9 with fail
        go_cut [15, 38] from 15 to 97 (fun c u wc => c = .int .i64 k ∧ u = .bool (ordBadE l k) ∧ Hid (Below w1.heap.size w1 wc))
        case first =>
          by_cases hk0 : k = 0
          · subst hk0
            go_wp2
            go_quiet (fail)
            go_wp2_with fail
            go_meet
            case rel => exact ⟨rfl, congrArg Value.bool (ordE_zero l).symm, Lib.hid (below_draws _ _ _)⟩
          · obtain ⟨q, rfl⟩ : ∃ q, k = q + 1 := ⟨k - 1, by omega⟩
            obtain ⟨p0, _⟩ := (HC.out.below HB1.out) q (by omega)
            have hwq : IntKind.i64.wrap (q : Int) = (q : Int) := by rw [IntKind.wrap_i64]; omega
            have hql : (q : Int) < (l.length : Int) := by omega
            go_wp2
            go_still_tail 11, (by kernel_rfl)
            go_wp2_with fail
            refine (PathOrder_any _ _ _ (HPZ.out q (by omega)) (HPZ.out (q + 1) (by omega))).mono ?_
            rintro e wc ⟨rfl, hb⟩
            have HBC := Lib.hid ((Below.refl w1.heap.size w1).drew.trans hb)
            clear hb
            go_wp2_with fail
            go_meet
            case rel => exact ⟨rfl, congrArg Value.bool (ordE_dec _ _), HBC⟩
        case rest =>
          obtain ⟨rfl, rfl, HBC⟩ := hcut
          have HB2 := Lib.hid (HB1.out.trans (HBC.out.mono HB1.out.size))
          have HBX2 := Lib.hid (HBX1.out.below HBC.out)
          clear g0 g1 g2 g3 g4 g5 g6 g7 g8 g9 g10
          obtain ⟨g0, g1, g2, g3, g4, g5, g6, g7, g8, g9, g10⟩ := HBX2.out.zero
          by_cases hO : OrdOkE l k
          · have HOK := Lib.hid hO
            rw [ordBadE_f hO]
            clear hO
            go_wp2_with fail
            refine (PathSplit_any _ _ (Nat.le_trans (HPZ.out k (Nat.le_refl _)) (by decide))).mono ?_
            rintro e w2 ⟨rfl, hb⟩
            have HB3 := Lib.hid (HB2.out.trans (hb.mono HB2.out.size))
            have HBX3 := Lib.hid (HBX2.out.below hb)
            clear hb g0 g1 g2 g3 g4 g5 g6 g7 g8 g9 g10
            obtain ⟨g0, g1, g2, g3, g4, g5, g6, g7, g8, g9, g10⟩ := HBX3.out.zero
            have htk : (l.take k).length = k := by rw [List.length_take]; omega
            have hfind := fun (n : Nat) (s : ByteArray) => EntryAt_at b off cap (l.take k) s (w2.drewN n) (by omega) HCAP.out (((HC.out.below HB3.out).below (below_draws _ _ n)).take k)
            rw [htk] at hfind
            have HFI := Lib.hid hfind
            have htl := entFind_le (l.take k) (pathUp (ek l k).path)
            have htl2 := entFind_le (l.take k) (ek l k).target
            rw [htk] at htl htl2
            have hkc : k ≤ cap := by omega
            have HUP := Lib.hid (show UpOkE l k ↔ ((pathUp (ek l k).path).size ≠ 0 → (metGet l k (pathUp (ek l k).path)).kind = 2) from Iff.rfl)
            have HF0 := Lib.hid (HFI.out 0 (pathUp (ek l k).path))
            have HMY := Lib.hid (fun h => metGet_yes (l := l) (k := k) (s := pathUp (ek l k).path) h)
            have HMN := Lib.hid (fun h => metGet_no (l := l) (k := k) (s := pathUp (ek l k).path) h)
            clear hfind htk
            generalize hn : entFind (l.take k) (pathUp (ek l k).path) = n at HF0 HMY HMN htl
            generalize hup : pathUp (ek l k).path = up at HF0 HUP HMY HMN
            clear hn hup
            go_upto_region 13 with (first | (go_at_call 63; refine HF0.out.mono ?_; rintro e w' ⟨rfl, rfl⟩))
            go_cut [15, 64] from 15 to 97 (fun c u wc2 => c = .int .i64 k ∧ u = .bool (!upOkE l k) ∧ wc2 = w2)
            case first =>
              by_cases h0 : up.size = 0
              · have HU := Lib.hid (upOkE_t (HUP.out.2 fun e => absurd h0 e))
                have he := empty_t h0
                clear h0
                go_wp2_with fail
                go_meet
                case rel => exact ⟨rfl, by rw [HU.out]; rfl, rfl⟩
              · have he := empty_f h0
                by_cases hnk : n = k
                · have HU := Lib.hid (upOkE_f (fun e => by have := HUP.out.1 e h0; rw [HMN.out (by omega)] at this; cases this))
                  clear h0
                  subst hnk
                  go_wp2_with fail
                  go_meet
                  case rel => exact ⟨rfl, by rw [HU.out]; rfl, rfl⟩
                · obtain ⟨_, q1, _⟩ := (HC.out.below HB3.out) n (by omega)
                  have hd : ((n : Int) == (k : Int)) = false := by rw [beq_eq_false_iff_ne]; omega
                  by_cases hkd : (ek l n).kind = 2
                  · have HU := Lib.hid (upOkE_t (HUP.out.2 fun e => by rw [HMY.out (by omega)]; exact hkd))
                    have hd2 : ((ek l n).kind != 2) = false := by rw [hkd]; rfl
                    go_wp2_with fail
                    go_meet
                    case rel => exact ⟨rfl, by rw [HU.out]; rfl, rfl⟩
                  · have HU := Lib.hid (upOkE_f (fun e => by have := HUP.out.1 e h0; rw [HMY.out (by omega)] at this; exact hkd this))
                    have hd2 : ((ek l n).kind != 2) = true := by rw [bne_iff_ne]; exact hkd
                    go_wp2_with fail
                    go_meet
                    case rel => exact ⟨rfl, by rw [HU.out]; rfl, rfl⟩
            case rest =>
              obtain ⟨rfl, rfl, rfl⟩ := hcut
              clear HF0 HUP HMY HMN htl
              by_cases hU : UpOkE l k
              · rw [upOkE_t hU]
                have HUO := Lib.hid hU
                clear hU
                have HLK := Lib.hid (show LinkOkE l k ↔ ((ek l k).kind = 4 → (metGet l k (ek l k).target).kind = 1 ∧ (metGet l k (ek l k).target).mt = (ek l k).mt) from Iff.rfl)
                have HMY := Lib.hid (fun h => metGet_yes (l := l) (k := k) (s := (ek l k).target) h)
                have HMN := Lib.hid (fun h => metGet_no (l := l) (k := k) (s := (ek l k).target) h)
                have HF1 := Lib.hid (fun n => HFI.out n (ek l k).target)
                generalize hn : entFind (l.take k) (ek l k).target = n at HF1 HMY HMN htl2
                clear hn
                go_wp2
                go_quiet ((first | (go_at_call 63; exact quiet_same (HF1.out _))))
                go_upto_region 16 with fail
                go_cut [15, 96] from 15 to 97 (fun c u wc2 => c = .int .i64 k ∧ u = .bool (!linkOkE l k) ∧ Hid (Below wc.heap.size wc wc2))
                case first =>
                  by_cases hk4 : (ek l k).kind = 4
                  · have hd4 : ((ek l k).kind == 4) = true := by rw [hk4]; rfl
                    by_cases hnk : n = k
                    · have HU := Lib.hid (linkOkE_f (fun e => by have := (HLK.out.1 e hk4).1; rw [HMN.out (by omega)] at this; cases this))
                      clear hk4
                      subst hnk
                      go_wp2
                      go_quiet (fail)
                      go_wp2_with fail
                      go_meet
                      case rel => exact ⟨rfl, by rw [HU.out]; rfl, Lib.hid ((below_draws _ _ _).trans (below_draws _ _ _))⟩
                    · obtain ⟨q0, q1, q2, q3, q4, q5, q6, q7, q8, q9, q10⟩ := (HC.out.below HB3.out) n (by omega)
                      have hd : ((n : Int) == (k : Int)) = false := by rw [beq_eq_false_iff_ne]; omega
                      have hnl : (n : Int) < (l.length : Int) := by omega
                      by_cases hkd : (ek l n).kind = 1
                      · have hd2 : ((ek l n).kind != 1) = false := by rw [hkd]; rfl
                        by_cases hmt : (ek l n).mt = (ek l k).mt
                        · have HU := Lib.hid (linkOkE_t (HLK.out.2 fun _ => by rw [HMY.out (by omega)]; exact ⟨hkd, hmt⟩))
                          have e0 := congrArg Meta.mode hmt
                          have e1 := congrArg Meta.uid hmt
                          have e2 := congrArg Meta.gid hmt
                          have e3 : (ek l n).mt.user.toList = (ek l k).mt.user.toList := by rw [hmt]
                          have e4 : (ek l n).mt.group.toList = (ek l k).mt.group.toList := by rw [hmt]
                          have e5 := congrArg Meta.second hmt
                          have e6 := congrArg Meta.nano hmt
                          clear hmt hk4 hkd
                          go_wp2
                          go_quiet (fail)
                          go_wp2_with fail
                          go_meet
                          case rel => exact ⟨rfl, by rw [HU.out]; rfl, Lib.hid ((below_draws _ _ _).trans (below_draws _ _ _))⟩
                        · have HU := Lib.hid (linkOkE_f (fun e => by have := (HLK.out.1 e hk4).2; rw [HMY.out (by omega)] at this; exact hmt this))
                          clear hk4 hkd
                          rcases meta_casesE hmt with e0 | ⟨e0, e1⟩ | ⟨e0, e1, e2⟩ | ⟨e0, e1, e2, e3⟩ | ⟨e0, e1, e2, e3, e4⟩ | ⟨e0, e1, e2, e3, e4, e5⟩ | ⟨e0, e1, e2, e3, e4, e5, e6⟩
                          all_goals clear hmt
                          all_goals go_wp2
                          all_goals go_quiet (fail)
                          all_goals go_wp2_with fail
                          all_goals go_meet
                          all_goals exact ⟨rfl, by rw [HU.out]; rfl, Lib.hid ((below_draws _ _ _).trans (below_draws _ _ _))⟩
                      · have HU := Lib.hid (linkOkE_f (fun e => by have := (HLK.out.1 e hk4).1; rw [HMY.out (by omega)] at this; exact hkd this))
                        have hd2 : ((ek l n).kind != 1) = true := by rw [bne_iff_ne]; exact hkd
                        clear hk4 hkd
                        go_wp2
                        go_quiet (fail)
                        go_wp2_with fail
                        go_meet
                        case rel => exact ⟨rfl, by rw [HU.out]; rfl, Lib.hid ((below_draws _ _ _).trans (below_draws _ _ _))⟩
                  · have HU := Lib.hid (linkOkE_t (HLK.out.2 fun e => absurd e hk4))
                    have hd4 : ((ek l k).kind == 4) = false := by rw [beq_eq_false_iff_ne]; exact hk4
                    clear hk4
                    go_wp2
                    go_quiet (fail)
                    go_wp2_with fail
                    go_meet
                    case rel => exact ⟨rfl, by rw [HU.out]; rfl, Lib.hid ((below_draws _ _ _).trans (below_draws _ _ _))⟩
                case rest =>
                  obtain ⟨rfl, rfl, HBD⟩ := hcut
                  have HB5 := Lib.hid (HB3.out.trans (HBD.out.mono HB3.out.size))
                  by_cases hL : LinkOkE l k
                  · rw [linkOkE_t hL]
                    have HS := Lib.hid (stepE_ok HA.out HOK.out HUO.out hL)
                    clear hL
                    go_wp2
                    go_roundw
                    case rel => exact ⟨k + 1, by omega, by go_num, Lib.hid (zsE_next HZ.out HS.out), HB5⟩
                    case measure => simp [intOf]; omega
                  · rw [linkOkE_f hL]
                    have HF := Lib.hid (HAT.out 11 (stepE_link HA.out HOK.out HUO.out hL) (by decide))
                    clear hL
                    go_wp2
                    go_ret
                    exact ⟨ret_i HF.out, HB5.out⟩
              · have HF := Lib.hid (HAT.out 10 (stepE_up HA.out HOK.out hU) (by decide))
                rw [upOkE_f hU]
                clear hU
                go_wp2
                go_ret
                exact ⟨ret_i HF.out, HB3.out⟩
          · have HF := Lib.hid (HAT.out 6 (stepE_ord HA.out hO) (by decide))
            rw [ordBadE_t hO]
            clear hO
            go_wp2
            go_ret
            exact ⟨ret_i HF.out, HB2.out⟩
      · have HF := Lib.hid (HAT.out _ (stepE_ent hA) hA)
        go_wp2_with fail
        refine (entF_call _ _ (HX.out.below ((Below.refl _ _).alloc (Nat.le_refl _) _))).mono ?_
        rintro e w1 ⟨rfl, hb⟩
        have HB1 := Lib.hid ((HB.out.alloc HB.out.size _).trans (hb.mono (by simp; exact Nat.le_succ_of_le HB.out.size)))
        clear hb h0 h1 h2 h3 h4 h5 h6 h7 h8 h9 h10
        generalize entFault (ek l k) = q at *
        go_wp2
        go_ret
        exact ⟨ret_i HF.out, HB1.out⟩
    · obtain rfl : k = l.length := by omega
      have HF := Lib.hid (entsFault_ok hfew HZ.out)
      go_wp2
      go_ret
      exact ⟨ret_i HF.out, HB.out⟩
set_option maxRecDepth 100000 in
theorem EntsFault_nil (a : Option Addr) (cap : Nat) (w : World) :
    Calls Tryz.prog 48 #[.slice a 0 cap] w fun e w' => e = .returned (.int .i64 0) ∧ w = w' := by
  go_enter Tryz.func48, Tryz.ntmps48
  go_wp2
  go_loop [3, 4, 5, 6, 7, 8, 9, 15] (fun _ _ _ _ _ _ _ i => i = .int .i64 0) (fun _ _ _ _ _ _ _ _ => 0)
  case atStart => rfl
  case round =>
    obtain rfl := hrel
    go_wp2
    go_ret
    exact ⟨rfl, rfl⟩
open Go.Creel Go.RowKit
set_option maxRecDepth 100000 in
theorem Compare_any (a b : ByteArray) (w : World) (hM : MaxOk w) (ha : a.size ≤ 1048576) (hb : b.size ≤ 1048576) :
    Calls Tryz.prog 113 #[.string a, .string b] w fun e w' => e = .returned (.int .i64 (ordP (pathParts a) (pathParts b))) ∧ Below w.heap.size w w' := by
  have HX := Lib.hid (parts_len' ha)
  have HY := Lib.hid (parts_len' hb)
  have HM := Lib.hid hM
  clear hM
  go_enter Tryz.func113, Tryz.ntmps113
  go_wp2_with fail
  refine (Parts_any _ _ HM.out (by omega)).mono ?_
  rintro e w1 ⟨v1, rfl, ho, hb1⟩
  have HB1 := Lib.hid hb1
  have HO1 := Lib.hid ho
  clear hb1 ho
  go_wp2_with fail
  refine (Parts_any _ _ (HM.out.below HB1.out) (by omega)).mono ?_
  rintro e w2 ⟨v2, rfl, ho, hb2⟩
  have HB2 := Lib.hid (HB1.out.trans (hb2.mono HB1.out.size))
  have HO2 := Lib.hid (HO1.out.below hb2)
  have HP2 := Lib.hid ho
  clear hb2 ho
  go_wp2_with fail
  refine (cmpTexts_any _ _ _ _ _ _ _ HX.out HY.out HO2.out HP2.out).mono ?_
  rintro e w3 ⟨rfl, hb3⟩
  have HB3 := Lib.hid (HB2.out.trans (hb3.mono HB2.out.size))
  clear hb3
  go_wp2
  go_ret
  exact ⟨rfl, HB3.out⟩
end Go.Proofs.YtaffgndickdbiaaGreatDoor
