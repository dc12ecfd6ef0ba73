/-
  Texts: CopyLF, ApplyL, NextSpec.
-/
import Derived.Test.YtaffgndickdbiaaDoorT14
set_option linter.unusedVariables false
set_option linter.unusedSimpArgs false
set_option linter.unusedSectionVars false
namespace Go.Creel
open Go.RowKit
def RetTF (t : TypeId) (w : World) (l : List Nod) (e : Ending) (w' : World) : Prop := ∃ v l', e = .returned v ∧ OwnNods t w' w.heap.size v l' ∧ l'.map Nod.bare = l.map Nod.bare ∧ Below w.heap.size w w' ∧ ∀ x ∈ l', ∀ a, x.da = some a → w.heap.size ≤ a.block
end Go.Creel
namespace Go.Proofs.YtaffgndickdbiaaDoor
open Go.Creel Go.RowKit
set_option maxRecDepth 100000 in
set_option maxHeartbeats 4000000 in
theorem CopyLF_at (b off cap : Nat) (l : List Nod) (w : World) (hpos : 0 < l.length) (hfew : l.length ≤ 8000000000) (hle : l.length ≤ cap) (hm : cap ≤ maxLen) (hc : NodsAt w b off l) (hok : ∀ i, i < l.length → (nk l i).Ok maxLen w) (hdat : ∀ i, i < l.length → (nk l i).data.length ≤ 140737488355328) :
    Calls Tryd.prog 44 #[.slice (some ⟨b, off, none⟩) l.length cap] w (RetTF 60 w l) := by
  obtain ⟨i0, hi, hz0, hz1, hz2⟩ := info_parts info_node
  have HI := Lib.hid (And.intro hi (And.intro hz0 (And.intro hz1 hz2)))
  clear hi hz0 hz1 hz2
  obtain ⟨i1, hi, hz0, hz1, hz2⟩ := info_parts info_byteC
  have HJ := Lib.hid (And.intro hi (And.intro hz0 (And.intro hz1 hz2)))
  have HC := Lib.hid hc
  have HK := Lib.hid hok
  have HD := Lib.hid hdat
  unfold maxLen at hm
  clear hc hok hdat hi hz0 hz1 hz2
  go_enter Tryd.func44, Tryd.ntmps44
  go_wp2_with (at_make; refine wpList_make_own _ rfl _ _ 22 rfl w.heap.size 60 i0 _ 12 Tryd.underlying22 HI.out.1 HI.out.2.1 HI.out.2.2.1 .i64 .i64 _ l.length rfl rfl (by first | rfl | omega) (by rw [HI.out.2.2.2]; omega) (by unfold maxLen; omega) (Nat.le_refl _) ?_; intro w5 hown hgr)
  have HOW5 := Lib.hid (show OwnNods 60 w5 w.heap.size (.slice (some ⟨w.heap.size, 0, none⟩) 0 l.length) [] from ⟨hown, fun x hx => absurd hx (by simp)⟩)
  have HB5 := Lib.hid ((Below.refl w.heap.size w).grown hgr (Nat.le_refl _) (fun x hx => by cases hx))
  clear hown hgr
  go_loopw [3, 5, 11] (fun v _ i wr => ∃ (k : Nat) (c : List Nod), k ≤ l.length ∧ i = .int .i64 k ∧ c.length = k ∧ Hid (OwnNods 60 wr w.heap.size v c) ∧ Hid (c.map Nod.bare = (l.take k).map Nod.bare) ∧ Hid (Below w.heap.size w wr) ∧ Hid (∀ x ∈ c, ∀ a, x.da = some a → w.heap.size ≤ a.block)) (fun _ _ i _ => l.length - (intOf i).toNat)
  case atStart => exact ⟨0, [], by omega, rfl, rfl, HOW5, Lib.hid rfl, HB5, Lib.hid (fun x hx => absurd hx (by simp))⟩
  case round =>
    obtain ⟨k, c, hk, rfl, hck, HOW, HBR, HB, HFR⟩ := hrel
    by_cases hlt : k < l.length
    · obtain ⟨h0, h1, h2, h3, h4, h5, h6, h7, h8, h9, h10, h11⟩ := (HC.out.below HB.out) k hlt
      have hxl := HD.out k hlt
      have HOB := Lib.hid HB.out.size
      have HKX := Lib.hid ((HK.out k hlt).below HB.out)
      have HBY := Lib.hid (fun (y : Nod) (hy : y.bare = (nk l k).bare) => bare_take HBR.out hlt hy)
      generalize nk l k = x at *
      have hbx := (Below.refl wr.heap.size wr).alloc (Nat.le_refl _) (boxOf x)
      have HBX := Lib.hid hbx
      have hxd : SliceC maxLen 1 ByteC (wr.alloc (boxOf x)) [.slice x.da x.data.length x.dcap] x.data := HKX.out.data.below (fun _ _ h => h) hbx
      clear hbx
      have happ : ∀ ty, AppTo Tryd.prog (wr.alloc (boxOf x)) 38 38 ty (.slice none 0 0) (.slice x.da x.data.length x.dcap) (wr.alloc (boxOf x)).heap.size 5 1 0 x.data.length [] (x.data.map byteV) := fun ty => app_bytes (l := []) (wr.alloc (boxOf x)) 38 38 5 5 i1 Tryd.underlying38 Tryd.underlying38 HJ.out.1 HJ.out.2.1 HJ.out.2.2.1 HJ.out.2.2.2 (OwnBs.nil _ _ _) hxd (by simp; omega) (Nat.le_refl _) ty
      have HAPP := Lib.hid happ
      clear happ
      have hob := HOB.out
      go_wp2_with (first
        | (at_builtin; refine wpList_app _ rfl (.const (.slice none 0 0)) (.tmp 16) 38 38 rfl _ _ rfl rfl HAPP.out ?_; intro v1 w2 ho hg _; obtain ⟨da, dc, rfl, HP2⟩ := copied_bytes (by unfold maxLen; omega) ho hg; obtain ⟨⟨c0, c1, c2, c3, c4, c5, c6, c7, c8, c9, c10, c11⟩, hfz, _⟩ := HP2.out; simp only [Nat.zero_add] at c1 c2 c3 c4 c5 c6 c7 c8 c9 c10 c11; clear ho hg)
        | (at_builtin; have HO3 := Lib.hid (HOW.out.below (HP2.out.2.2.1.alloc HP2.out.2.2.1.size (boxOf (x.at da dc)))); have HN3 := Lib.hid (copied_in (boxOf (x.at da dc)) HOW.out HKX.out HP2.out.2.2.2.1 HP2.out.2.2.2.2); refine wpList_app _ rfl (.tmp 19) (.tmp 21) 22 22 rfl _ _ rfl rfl (fun ty => app_src _ 22 22 ty w.heap.size 60 i0 _ 12 144 Tryd.underlying22 HI.out.1 HI.out.2.1 HI.out.2.2.1 HI.out.2.2.2 rfl (by decide) _ _ c.length 1 _ _ HO3.out.1 (src_nod_at (w2.setCell ⟨wr.heap.size, 11, none⟩ (.slice da x.data.length dc)) (show w2.heap.size = _ by simp) _ _ _ Tryd.underlying22 (x.at da dc)) (by unfold maxLen; omega) (by omega) (Nat.le_trans HOB.out (HP2.out.2.2.1.alloc HP2.out.2.2.1.size (boxOf (x.at da dc))).size)) ?_; intro v2 w4 ho2 hg2 hv2; have HZ := Lib.hid (And.intro ho2 (And.intro hg2 hv2)); clear ho2 hg2 hv2))
      have HO4 := Lib.hid (HO3.out.app (m := [x.at da dc]) (fun y hy => by rw [List.mem_singleton.1 hy]; exact HN3.out) HZ.out.1 HZ.out.2.1 HZ.out.2.2.2)
      have HB3 := Lib.hid (HB.out.trans ((HP2.out.2.2.1.alloc HP2.out.2.2.1.size (boxOf (x.at da dc))).mono HB.out.size))
      have HB4 := Lib.hid (below_app HB3.out HZ.out.2.1 HO3.out.1 HB3.out.size)
      go_wp2
      go_roundw
      case rel => exact ⟨k + 1, c ++ [x.at da dc], by omega, by go_num, by simp [hck], HO4, Lib.hid (HBY.out _ rfl), HB4, Lib.hid (fun y hy a ha => by
        rcases List.mem_append.1 hy with h | h
        · exact HFR.out y h a ha
        · rw [List.mem_singleton.1 h] at ha
          exact Nat.le_trans HOB.out (HP2.out.2.2.2.2 a ha))⟩
      case measure => simp [intOf]; omega
    · obtain rfl : k = l.length := by omega
      go_wp2
      go_ret
      rw [List.take_length] at HBR
      exact ⟨_, c, rfl, HOW.out, HBR.out, HB.out, HFR.out⟩
set_option maxRecDepth 100000 in
theorem CopyLF_nil (a : Option Addr) (cap : Nat) (w : World) : Calls Tryd.prog 44 #[.slice a 0 cap] w (RetTF 60 w []) := by
  obtain ⟨i0, hi, hz0, hz1, hz2⟩ := info_parts info_node
  have HI := Lib.hid (And.intro hi (And.intro hz0 (And.intro hz1 hz2)))
  clear hi hz0 hz1 hz2
  go_enter Tryd.func44, Tryd.ntmps44
  go_wp2_with (at_make; refine wpList_make_own _ rfl _ _ 22 rfl w.heap.size 60 i0 _ 12 Tryd.underlying22 HI.out.1 HI.out.2.1 HI.out.2.2.1 .i64 .i64 _ 0 rfl rfl rfl (by omega) (by unfold maxLen; omega) (Nat.le_refl _) ?_; intro w5 hown hgr)
  have HOW5 := Lib.hid (show OwnNods 60 w5 w.heap.size (.slice (some ⟨w.heap.size, 0, none⟩) 0 0) [] from ⟨hown, fun x hx => absurd hx (by simp)⟩)
  have HB5 := Lib.hid ((Below.refl w.heap.size w).grown hgr (Nat.le_refl _) (fun x hx => by cases hx))
  clear hown hgr
  go_loop [3, 5, 11] (fun v _ i => i = .int .i64 0 ∧ v = .slice (some ⟨w.heap.size, 0, none⟩) 0 0) (fun _ _ _ => 0)
  case atStart => exact ⟨rfl, rfl⟩
  case round =>
    obtain ⟨rfl, rfl⟩ := hrel
    go_wp2
    go_ret
    exact ⟨_, [], rfl, HOW5.out, rfl, HB5.out, fun x hx => absurd hx (by simp)⟩
theorem CopyLF_any (v : Value) (l : List Nod) (w : World) (h : SliceC maxLen 12 (NodC maxLen) w [v] l) (hfew : l.length ≤ 8000000000) (hdat : ∀ i, i < l.length → (nk l i).data.length ≤ 140737488355328) :
    Calls Tryd.prog 44 #[v] w (RetTF 60 w l) := by
  rcases nods_cases h with ⟨a, cap, rfl, rfl, _⟩ | ⟨b, off, cap, rfl, h1, h2, h3, h6, h4, h5⟩
  · exact CopyLF_nil a cap w
  · exact CopyLF_at b off cap l w h1 hfew h2 h3 h4 h5 hdat
end Go.Proofs.YtaffgndickdbiaaDoor
namespace Go.Creel
open Go.RowKit
theorem chgs_open {w : World} {v : Value} {l : List Chg} (h : SliceC maxLen 13 (ChgC maxLen) w [v] l) : ∃ a cap, v = .slice a l.length cap ∧ l.length ≤ cap ∧ cap ≤ maxLen ∧ ∀ k, k < l.length → ∃ b off, a = some ⟨b, off, none⟩ ∧ ChgCells w b (off + k * 13) (ck l k) ∧ i64 (ck l k).kind ∧ (ck l k).node.Ok maxLen w := by
  obtain ⟨a, cap, hv, h1, h2, h3, h5, h4⟩ := h
  simp only [List.cons.injEq, and_true] at hv
  refine ⟨a, cap, hv, h1, h2, fun k hk => ?_⟩
  obtain ⟨b, off, rfl, hc⟩ := h4 (by omega)
  obtain ⟨c, _, hcc, hE, hki, hn⟩ := hc k hk
  rw [ck_eq hk]
  subst hE
  exact ⟨b, off, rfl, ⟨hcc 0 (by decide), hcc 1 (by decide), hcc 2 (by decide), hcc 3 (by decide), hcc 4 (by decide), hcc 5 (by decide), hcc 6 (by decide), hcc 7 (by decide), hcc 8 (by decide), hcc 9 (by decide), hcc 10 (by decide), hcc 11 (by decide), hcc 12 (by decide)⟩, hki, hn⟩
theorem OwnNods.openedD {t : TypeId} {w : World} {B : Nat} {v : Value} {l : List Nod} (h : OwnNods t w B v l) : ∃ a cap, v = .slice a l.length cap ∧ l.length ≤ cap ∧ cap ≤ maxLen ∧ ∀ k, k < l.length → ∃ g, a = some ⟨g, 0, none⟩ := by
  rcases h.form with ⟨rfl, rfl⟩ | ⟨g, cap, rfl, _, _, h1, h2⟩
  · exact ⟨none, 0, rfl, Nat.le_refl _, Nat.zero_le _, fun k hk => absurd hk (by simp)⟩
  · exact ⟨_, cap, rfl, h1, h2, fun _ _ => ⟨g, rfl⟩⟩
theorem chg_row {w : World} {b : Nat} {c : Chg} {t : TypeId} (h : w.heap[b]? = some (.cells #[.int .i64 c.kind, .string c.node.path, .int .i64 c.node.kind, .int .i64 c.node.same, .string c.node.target, .int .i64 c.node.mt.mode, .int .i64 c.node.mt.uid, .int .i64 c.node.mt.gid, .string c.node.mt.user, .string c.node.mt.group, .int .i64 c.node.mt.second, .int .i64 c.node.mt.nano, .slice c.node.da c.node.data.length c.node.dcap] t (0, 0))) :
    w.cell? ⟨b, 0, none⟩ = some (.int .i64 c.kind) ∧ NodAt w b 1 c.node :=
  ⟨cellAt h rfl, cellAt h rfl, cellAt h rfl, cellAt h rfl, cellAt h rfl, cellAt h rfl, cellAt h rfl, cellAt h rfl, cellAt h rfl, cellAt h rfl, cellAt h rfl, cellAt h rfl, cellAt h rfl⟩
theorem NodsShort.paths {l : List Nod} (h : NodsShort l) : PathsOk l := fun x hx => (h x hx).path
theorem NodsShort.dat {l : List Nod} (h : NodsShort l) : ∀ i, i < l.length → (nk l i).data.length ≤ 140737488355328 := fun i hi => (h _ (by rw [nk_eq hi]; exact List.getElem_mem hi)).data
end Go.Creel
namespace Go.Proofs.YtaffgndickdbiaaDoor
open Go.Creel Go.RowKit
set_option maxRecDepth 100000 in
set_option maxHeartbeats 8000000 in
theorem ApplyL_any (v : Value) (t : List Nod) (vl : Value) (l : List Chg) (w : World) (ht : SliceC maxLen 12 (NodC maxLen) w [v] t) (hl : SliceC maxLen 13 (ChgC maxLen) w [vl] l) (hlen : l.length ≤ 1048576) (hls : ∀ k, k < l.length → NodShort (ck l k).node) (hM : MaxOk w) :
    Calls Tryd.prog 17 #[v, vl] w (RetTE 60 w (diffApply t l)) := by
  obtain ⟨i0, hi, hz0, hz1, hz2⟩ := info_parts info_node
  have HI := Lib.hid (And.intro hi (And.intro hz0 (And.intro hz1 hz2)))
  have HCT := Lib.hid (TreeCheck_any v t w hM ht)
  have HH := Lib.hid ht
  have HM := Lib.hid hM
  obtain ⟨al, cl, rfl, hcl, hclm, hop⟩ := chgs_open hl
  have HOP := Lib.hid hop
  have HLS := Lib.hid hls
  have HQ1 := Lib.hid (diffApply_bad (t := t) (l := l))
  have HQ2 := Lib.hid (diffApply_ok (t := t) (l := l))
  unfold maxLen at hclm
  generalize hU : diffApply t l = U at *
  have HU := Lib.hid hU
  clear ht hl hM hi hz0 hz1 hz2 hop hls hU
  go_enter Tryd.func17, Tryd.ntmps17
  go_wp2_with fail
  refine HCT.out.mono ?_
  rintro e w1 ⟨rfl, hb⟩
  have HB1 := Lib.hid hb
  clear hb HCT
  by_cases hf : treeFault t = 0
  · have hfq : (treeFault t != 0) = false := by rw [hf]; rfl
    have HA := Lib.hid (treeFault_all hf)
    have HSH := Lib.hid (show NodsShort t from fun x hx => by
      obtain ⟨k, hk, rfl⟩ := mem_nk hx
      have h1 := HA.out.2 k hk
      exact ⟨Nat.le_trans (nodFault_path h1) (by omega), Nat.le_trans (nodFault_dat h1) (by omega)⟩)
    have HCP := Lib.hid (CopyL_any v t w1 (nods_below HH.out HB1.out) (by have := HA.out.1; omega) HSH.out.dat)
    have HUE := HQ2.out hf
    clear HQ1 HQ2
    go_wp2_with fail
    refine HCP.out.mono ?_
    rintro e w2 ⟨v2, c, rfl, ho, hc, hb⟩
    have HB2 := Lib.hid (HB1.out.trans (hb.mono HB1.out.size))
    have HO2 := Lib.hid (ho.mono HB1.out.size)
    have HG2 := Lib.hid (show AGo c l U by rw [HUE]; exact AGo.start hc)
    have HL2 := Lib.hid (show c.length ≤ 40 by rw [bare_len hc]; exact HA.out.1)
    have HS2 := Lib.hid (HSH.out.bare hc)
    clear ho hc hb HCP HA HSH HUE HU HH hf hfq
    obtain ⟨u1, u2⟩ := U
    go_wp2_with fail
    go_loopw [7, 9, 10, 11, 22, 34, 43, 52, 71, 78] (fun v7 _ _ _ i _ _ _ _ _ wr => ∃ (k : Nat) (vo : Value) (c : List Nod), k ≤ l.length ∧ i = .int .i64 (k : Int) ∧ vo = v7 ∧ c.length ≤ 40 + k ∧ Hid (OwnNods 60 wr w.heap.size vo c) ∧ Hid (NodsShort c) ∧ Hid (AGo c (l.drop k) (u1, u2)) ∧ Hid (Below w.heap.size w wr)) (fun _ _ _ _ i _ _ _ _ _ _ => l.length - (intOf i).toNat)
    case atStart => exact ⟨0, _, c, by omega, rfl, rfl, by have := HL2.out; omega, HO2, HS2, HG2, HB2⟩
    case round =>
      obtain ⟨k, vo, c, hk, rfl, rfl, hcl1, HO, HS, HG, HB⟩ := hrel
      by_cases hlt : k < l.length
      · obtain ⟨bl, ol, rfl, hcc, hki, hno⟩ := HOP.out k hlt
        obtain ⟨h0, h1, h2, h3, h4, h5, h6, h7, h8, h9, h10, h11, h12⟩ := hcc.below HB.out
        have HX := Lib.hid (HLS.out k hlt)
        have HNO := Lib.hid (hno.below HB.out)
        have HBAD := Lib.hid (fun (e : Int) he hz => HG.out.bad hlt (e := e) he hz)
        have HNXT := Lib.hid (fun (p : List Nod) he hp => HG.out.next hlt (p := p) he hp)
        clear hcc hki hno HG
        generalize ck l k = cx at *
        obtain ⟨kd, x⟩ := cx
        simp only at h0 h1 h2 h3 h4 h5 h6 h7 h8 h9 h10 h11 h12
        have HBX := Lib.hid ((Below.refl wr.heap.size wr).alloc (Nat.le_refl _) (boxC ⟨kd, x⟩))
        have HBR := Lib.hid (heap_alloc_new wr (boxC ⟨kd, x⟩))
        have HFD := Lib.hid (FindN_any vo c x.path (wr.alloc (boxC ⟨kd, x⟩)) ((HO.out.below HBX.out).slice (by unfold maxLen; omega)))
        have HXP := Lib.hid (HX.out.path)
        have HXD := Lib.hid (HX.out.data)
        go_wp2_with fail
        refine HFD.out.mono ?_
        rintro e w3 ⟨rfl, hb⟩
        have HB13 := Lib.hid (HBX.out.trans (hb.mono HBX.out.size))
        have HB3 := Lib.hid (HB.out.trans (HB13.out.mono HB.out.size))
        have HO3 := Lib.hid (HO.out.below HB13.out)
        have HN3 := Lib.hid (HNO.out.below HB13.out)
        have HBR3 := Lib.hid ((hb.block _ (Array.getElem?_eq_some_iff.1 HBR.out).1).trans HBR.out)
        have HM3 := Lib.hid (HM.out.below HB3.out)
        have hbxl : wr.heap.size < w3.heap.size := (Array.getElem?_eq_some_iff.1 HBR3.out).1
        obtain ⟨b0, b1, b2, b3, b4, b5, b6, b7, b8, b9, b10, b11, b12⟩ := chg_row HBR3.out
        simp only [Nat.reduceAdd] at b0 b1 b2 b3 b4 b5 b6 b7 b8 b9 b10 b11 b12
        clear hb HBX HBR HFD HO HB HNO HB13 h0 h1 h2 h3 h4 h5 h6 h7 h8 h9 h10 h11 h12 HB1 HB2 HO2 HL2 HS2 HG2
        by_cases hk1 : kd < 1
        · have hk1d : decide (kd < 1) = true := decide_eq_true hk1
          obtain ⟨hu1, hu2⟩ := HBAD.out 2 (applyE_kind (.inl hk1)) (by decide)
          try simp only at hu1 hu2
          subst hu2
          have HU1 := Lib.hid hu1
          clear hu1 HBAD HNXT
          go_wp2
          go_ret2
          exact ⟨_, [], rfl, OwnNods.nil _ _ _, HU1.out.symm, HB3.out⟩
        · have hk1d : decide (kd < 1) = false := decide_eq_false hk1
          by_cases hk3 : 3 < kd
          · have hk3d : decide (3 < kd) = true := decide_eq_true hk3
            obtain ⟨hu1, hu2⟩ := HBAD.out 2 (applyE_kind (.inr hk3)) (by decide)
            try simp only at hu1 hu2
            subst hu2
            have HU1 := Lib.hid hu1
            clear hu1 HBAD HNXT
            go_wp2
            go_ret2
            exact ⟨_, [], rfl, OwnNods.nil _ _ _, HU1.out.symm, HB3.out⟩
          · have hk3d : decide (3 < kd) = false := decide_eq_false hk3
            by_cases hfd : treeFind c x.path < c.length
            · have hfi : findIE (treeFind c x.path) c.length = ((treeFind c x.path : Int), 0) := if_pos hfd
              rw [hfi]
              clear hfi
              rcases HO3.out.form with ⟨rfl, rfl⟩ | ⟨g, cap, rfl, hgB, hgw, hcap, hcm⟩
              · exact absurd hfd (by simp)
              rcases (show kd = 1 ∨ kd = 2 ∨ kd = 3 by omega) with rfl | rfl | rfl
              · have HE := Lib.hid (applyE_old (o := c) (c := ⟨1, x⟩) (show ¬ ((1 : Int) < 1 ∨ (3 : Int) < 1) by decide) (show ¬ (1 : Int) = 2 by decide) hfd)
                have HP := Lib.hid (applyS_gone (o := c) (c := ⟨1, x⟩) rfl)
                have HSN := Lib.hid (HS.out.step (c := ⟨1, x⟩) HX.out)
                have hln := applyS_len (o := c) (c := ⟨1, x⟩) hcl1
                have HNX := Lib.hid (HNXT.out _ HE.out rfl)
                rw [HP.out] at HSN hln HNX
                have HDL := Lib.hid (DelAt_any w g cap c.length (treeFind c x.path) c w3 HO3.out rfl hcap hcm hfd HB3.out)
                generalize treeFind c x.path = ix at *
                clear HBAD HNXT HE HP
                go_wp2_with fail
                refine HDL.out.mono ?_
                rintro e w4 ⟨v4, rfl, ho, hb⟩
                have HO4 := Lib.hid ho
                have HB4 := Lib.hid hb
                clear ho hb
                go_wp2
                go_roundw
                case rel => exact ⟨k + 1, _, _, by omega, by go_num, rfl, by omega, HO4, HSN, HNX, HB4⟩
                case measure => simp [intOf]; omega
              · unfold maxLen at hcm
                obtain ⟨hu1, hu2⟩ := HBAD.out 6 (applyE_twice rfl hfd) (by decide)
                try simp only at hu1 hu2
                subst hu2
                have HU1 := Lib.hid hu1
                clear hu1 HBAD HNXT
                go_wp2
                go_ret2
                exact ⟨_, [], rfl, OwnNods.nil _ _ _, HU1.out.symm, HB3.out⟩
              · have HE := Lib.hid (applyE_old (o := c) (c := ⟨3, x⟩) (show ¬ ((3 : Int) < 1 ∨ (3 : Int) < 3) by decide) (show ¬ (3 : Int) = 2 by decide) hfd)
                have HP := Lib.hid (applyS_other (o := c) (c := ⟨3, x⟩) (show ¬ (3 : Int) = 1 by decide) (show ¬ (3 : Int) = 2 by decide))
                have HSN := Lib.hid (HS.out.step (c := ⟨3, x⟩) HX.out)
                have HNX := Lib.hid (fun p hp => HNXT.out p HE.out hp)
                rw [HP.out] at HSN HNX
                simp only at HSN HNX
                have HBB := Lib.hid ((Below.refl w3.heap.size w3).alloc (Nat.le_refl _) (boxOf x))
                have HSB := Lib.hid (box_slice (t := 60) (x := x) HN3.out)
                generalize treeFind c x.path = ix at *
                unfold maxLen at hcm
                clear HBAD HNXT HE HP HBR3 HN3 HX
                go_wp2_with fail
                refine (CopyLF_any _ [x] _ HSB.out (by simp) (list_dat (fun y hy => by rw [List.mem_singleton.1 hy]; exact HXD.out))).mono ?_
                rintro e w4 ⟨v4, c2, rfl, ho, hbr, hb, hfr⟩
                have HB34 := Lib.hid (HBB.out.trans (hb.mono HBB.out.size))
                have HB4 := Lib.hid (HB3.out.trans (HB34.out.mono HB3.out.size))
                have HO4 := Lib.hid (HO3.out.below HB34.out)
                have HIN4 := Lib.hid (fresh_in (w0 := w3) HO4.out ho.oks (fun x hx a ha => by have := hfr x hx a ha; simp at this; omega) HO3.out.blk)
                obtain ⟨y, rfl⟩ := List.length_eq_one_iff.1 (show c2.length = 1 from bare_len hbr)
                have hyb : y.bare = x.bare := by simpa using hbr
                rcases ho.form with ⟨_, e0⟩ | ⟨g4, cap4, rfl, _, hg4w, hcap4, hcm4⟩
                · cases e0
                obtain ⟨y0, y1, y2, y3, y4, y5, y6, y7, y8, y9, y10, y11⟩ := ho.nodAtN rfl (k := 0) (by simp)
                simp only [Nat.zero_mul, Nat.zero_add] at y0 y1 y2 y3 y4 y5 y6 y7 y8 y9 y10 y11
                obtain ⟨z0, z1, z2, z3, z4, z5, z6, z7, z8, z9, z10, z11⟩ := HO4.out.nodAtN rfl (k := ix) hfd
                have zf0 := HO4.out.frozenAtN rfl (ix * 12)
                have zf1 := HO4.out.frozenAtN rfl (ix * 12 + 1)
                have zf2 := HO4.out.frozenAtN rfl (ix * 12 + 2)
                have zf3 := HO4.out.frozenAtN rfl (ix * 12 + 3)
                have zf4 := HO4.out.frozenAtN rfl (ix * 12 + 4)
                have zf5 := HO4.out.frozenAtN rfl (ix * 12 + 5)
                have zf6 := HO4.out.frozenAtN rfl (ix * 12 + 6)
                have zf7 := HO4.out.frozenAtN rfl (ix * 12 + 7)
                have zf8 := HO4.out.frozenAtN rfl (ix * 12 + 8)
                have zf9 := HO4.out.frozenAtN rfl (ix * 12 + 9)
                have zf10 := HO4.out.frozenAtN rfl (ix * 12 + 10)
                have zf11 := HO4.out.frozenAtN rfl (ix * 12 + 11)
                have HPN := Lib.hid (HO4.out.putNode rfl hfd (HIN4.out y (by simp)))
                have HBN := Lib.hid (below_grownR HB4.out HPN.out.2 HB4.out.size hgB)
                have HMB := Lib.hid (show (c.set ix y).map Nod.bare = (c.set ix x).map Nod.bare by rw [List.map_set, List.map_set, hyb])
                have HSI := Lib.hid (HSN.out.bare HMB.out)
                have HNZ := Lib.hid (HNX.out _ HMB.out)
                have hil : (c.set ix y).length ≤ 40 + (k + 1) := by rw [List.length_set]; omega
                have hlc : (c.set ix y).length = c.length := List.length_set
                unfold maxLen at hcm4
                clear ho hbr hb hfr HSB HBB HB34 HO3 HB3 HM3 hbxl HNX HSN hyb HIN4 HMB
                generalize nk c ix = zz at *
                go_wp2
                go_roundw
                case rel => exact ⟨k + 1, _, c.set ix y, by omega, by go_num, rfl, hil, Lib.hid HPN.out.1, HSI, HNZ, HBN⟩
                case measure => simp [intOf]; omega
            · have hfi : findIE (treeFind c x.path) c.length = (0, 5) := if_neg hfd
              rw [hfi]
              clear hfi
              rcases (show kd = 1 ∨ kd = 2 ∨ kd = 3 by omega) with rfl | rfl | rfl
              · obtain ⟨hu1, hu2⟩ := HBAD.out 5 (applyE_none (show ¬ ((1 : Int) < 1 ∨ (3 : Int) < 1) by decide) (show ¬ (1 : Int) = 2 by decide) hfd) (by decide)
                try simp only at hu1 hu2
                subst hu2
                have HU1 := Lib.hid hu1
                clear hu1 HBAD HNXT
                go_wp2
                go_ret2
                exact ⟨_, [], rfl, OwnNods.nil _ _ _, HU1.out.symm, HB3.out⟩
              · have HE := Lib.hid (applyE_new (o := c) (c := ⟨2, x⟩) rfl hfd)
                have HP := Lib.hid (applyS_new (o := c) (c := ⟨2, x⟩) rfl)
                have HSN := Lib.hid (HS.out.step (c := ⟨2, x⟩) HX.out)
                have HNX := Lib.hid (fun p hp => HNXT.out p HE.out hp)
                rw [HP.out] at HSN HNX
                have HBB := Lib.hid ((Below.refl w3.heap.size w3).alloc (Nat.le_refl _) (boxOf x))
                have HSB := Lib.hid (box_slice (t := 60) (x := x) HN3.out)
                clear HBAD HNXT HE HP HBR3 HN3 HX hfd
                go_wp2_with fail
                refine (CopyLF_any _ [x] _ HSB.out (by simp) (list_dat (fun y hy => by rw [List.mem_singleton.1 hy]; exact HXD.out))).mono ?_
                rintro e w4 ⟨v4, c2, rfl, ho, hbr, hb, hfr⟩
                have HB34 := Lib.hid (HBB.out.trans (hb.mono HBB.out.size))
                have HB4 := Lib.hid (HB3.out.trans (HB34.out.mono HB3.out.size))
                have HO4 := Lib.hid (HO3.out.below HB34.out)
                have hc2 : c2.length = 1 := bare_len hbr
                have HS4 := Lib.hid (ho.slice (by unfold maxLen; omega))
                have HIN4 := Lib.hid (fresh_in (w0 := w3) HO4.out ho.oks (fun x hx a ha => by have := hfr x hx a ha; simp at this; omega) HO3.out.blk)
                have HBQ := Lib.hid (show (c ++ c2).map Nod.bare = (c ++ [x]).map Nod.bare by rw [List.map_append, List.map_append, hbr])
                have HC2L := Lib.hid hc2
                clear ho hbr hb hfr HSB HBB HB34 HO3 HB3 HM3 hbxl b0 b1 b2 b3 b4 b5 b6 b7 b8 b9 b10 b11 b12
                go_upto_region 21 with (at_builtin; refine wpList_app _ rfl (.tmp 80) (.tmp 84) 22 22 rfl _ _ rfl rfl (fun ty => app_src _ 22 22 ty w.heap.size 60 i0 _ 12 144 Tryd.underlying22 HI.out.1 HI.out.2.1 HI.out.2.2.1 HI.out.2.2.2 rfl (by decide) _ _ c.length c2.length _ _ HO4.out.1 (src_nods Tryd.underlying22 HS4.out) (by unfold maxLen; omega) (by omega) HB4.out.size) ?_; intro v5 w5 ho2 hg2 hv2; have HZ := Lib.hid (And.intro ho2 (And.intro hg2 hv2.2)); clear ho2 hg2 hv2)
                have HO5 := Lib.hid (HO4.out.app HIN4.out HZ.out.1 HZ.out.2.1 HZ.out.2.2)
                have HB5 := Lib.hid (below_app HB4.out HZ.out.2.1 HO4.out.1 HB4.out.size)
                have HIB := Lib.hid (show (isort (c ++ c2)).map Nod.bare = (isort (c ++ [x])).map Nod.bare by rw [isort_mapB, isort_mapB, HBQ.out])
                have HSI := Lib.hid (HSN.out.bare HIB.out)
                have HPO := Lib.hid (show PathsOk (c ++ c2) from fun y hy => (HSI.out y (isort_mem.2 hy)).path)
                have HST := Lib.hid (SortStableA_any w v5 (c ++ c2) w5 HO5.out (by rw [List.length_append, HC2L.out]; omega) HPO.out HM.out HB5.out)
                have hil : (isort (c ++ c2)).length ≤ 40 + (k + 1) := by rw [isort_len, List.length_append, HC2L.out]; omega
                have HNZ := Lib.hid (HNX.out _ HIB.out)
                clear HNX HSN HIB HBQ HPO HZ HO4 HIN4 HS4 HB4 HO5 HB5 hc2 HC2L
                generalize isort (c ++ c2) = srt at *
                go_wp2_with fail
                refine HST.out.mono ?_
                rintro e w6 ⟨rfl, ho, hb⟩
                have HO6 := Lib.hid ho
                have HB6 := Lib.hid hb
                clear ho hb
                go_wp2
                go_roundw
                case rel => exact ⟨k + 1, _, srt, by omega, by go_num, rfl, hil, HO6, HSI, HNZ, HB6⟩
                case measure => simp [intOf]; omega
              · obtain ⟨hu1, hu2⟩ := HBAD.out 5 (applyE_none (show ¬ ((3 : Int) < 1 ∨ (3 : Int) < 3) by decide) (show ¬ (3 : Int) = 2 by decide) hfd) (by decide)
                try simp only at hu1 hu2
                subst hu2
                have HU1 := Lib.hid hu1
                clear hu1 HBAD HNXT
                go_wp2
                go_ret2
                exact ⟨_, [], rfl, OwnNods.nil _ _ _, HU1.out.symm, HB3.out⟩
      · obtain rfl : k = l.length := by omega
        have HTC := Lib.hid (TreeCheck_any _ c wr (HM.out.below HB.out) (HO.out.slice (by unfold maxLen; omega)))
        go_wp2_with fail
        refine HTC.out.mono ?_
        rintro e w3 ⟨rfl, hb⟩
        have HB3 := Lib.hid (HB.out.trans (hb.mono HB.out.size))
        have HO3 := Lib.hid (HO.out.below hb)
        clear hb HTC
        by_cases hz : treeFault c = 0
        · have hzq : (treeFault c != 0) = false := by rw [hz]; rfl
          obtain ⟨hu1, hu2⟩ := HG.out.done_ok hz
          try simp only at hu1 hu2
          subst hu2
          have HU1 := Lib.hid hu1
          have HCP := Lib.hid (CopyL_any _ c w3 (HO3.out.slice (by unfold maxLen; omega)) (by omega) HS.out.dat)
          clear hu1 HG hz
          go_wp2_with fail
          refine HCP.out.mono ?_
          rintro e w4 ⟨v4, c4, rfl, ho, hc, hb⟩
          have HB4 := Lib.hid (HB3.out.trans (hb.mono HB3.out.size))
          have HO4 := Lib.hid (ho.mono HB3.out.size)
          have HC4 := Lib.hid (hc.trans HU1.out.symm)
          clear ho hc hb
          go_wp2
          go_ret2
          exact ⟨_, c4, rfl, HO4.out, HC4.out, HB4.out⟩
        · have hzq : (treeFault c != 0) = true := by rw [bne_iff_ne]; exact hz
          obtain ⟨hu1, hu2⟩ := HG.out.done_bad hz
          try simp only at hu1 hu2
          subst hu2
          have HU1 := Lib.hid hu1
          clear hu1 HG hz
          go_wp2
          go_ret2
          exact ⟨_, [], rfl, OwnNods.nil _ _ _, HU1.out.symm, HB3.out⟩
  · have hq : (treeFault t != 0) = true := by rw [bne_iff_ne]; exact hf
    have HF := Lib.hid (HQ1.out hf)
    clear HQ1 HQ2 hf
    go_wp2
    go_ret2
    rw [HF.out]
    exact ⟨_, [], rfl, OwnNods.nil _ _ _, rfl, HB1.out⟩
end Go.Proofs.YtaffgndickdbiaaDoor
namespace Go.Creel
open Go.RowKit
def nextL (kd : Int) (ix : Nat) (x : Nod) (c : List Nod) (q : Nat) : List Nod := (List.range q).flatMap fun j => if j = ix then (if kd = 3 then [x] else []) else [nk c j]
theorem nextL_succ (kd : Int) (ix : Nat) (x : Nod) (c : List Nod) (q : Nat) : nextL kd ix x c (q + 1) = nextL kd ix x c q ++ (if q = ix then (if kd = 3 then [x] else []) else [nk c q]) := by
  unfold nextL
  rw [List.range_succ, List.flatMap_append]
  simp
theorem nextL_keep {kd : Int} {ix : Nat} {x : Nod} {c : List Nod} {q : Nat} (h : ¬ q = ix) : nextL kd ix x c (q + 1) = nextL kd ix x c q ++ [nk c q] := by rw [nextL_succ, if_neg h]
theorem nextL_gone {kd : Int} {ix : Nat} {x : Nod} {c : List Nod} (h : ¬ kd = 3) : nextL kd ix x c (ix + 1) = nextL kd ix x c ix := by rw [nextL_succ, if_pos rfl, if_neg h, List.append_nil]
theorem nextL_set {ix : Nat} {x : Nod} {c : List Nod} : nextL 3 ix x c (ix + 1) = nextL 3 ix x c ix ++ [x] := by rw [nextL_succ, if_pos rfl, if_pos rfl]
theorem nextL_len (kd : Int) (ix : Nat) (x : Nod) (c : List Nod) : ∀ q, (nextL kd ix x c q).length ≤ q
  | 0 => Nat.le_refl _
  | q + 1 => by
    have h := nextL_len kd ix x c q
    rw [nextL_succ, List.length_append]
    split
    · split
      · simp; omega
      · simp; omega
    · simp; omega
theorem nextL_ahead {kd : Int} {ix : Nat} {x : Nod} {c : List Nod} : ∀ {q : Nat}, q ≤ ix → q ≤ c.length → nextL kd ix x c q = c.take q
  | 0, _, _ => rfl
  | q + 1, h1, h2 => by
    rw [nextL_keep (by omega), nextL_ahead (by omega) (by omega), take_nk (by omega)]
theorem nextL_behind {kd : Int} {ix : Nat} {x : Nod} {c : List Nod} : ∀ {d : Nat}, ix + 1 + d ≤ c.length → nextL kd ix x c (ix + 1 + d) = c.take ix ++ (if kd = 3 then [x] else []) ++ (c.drop (ix + 1)).take d
  | 0, h => by
    rw [Nat.add_zero, nextL_succ, if_pos rfl, nextL_ahead (Nat.le_refl _) (by omega)]
    simp
  | d + 1, h => by
    rw [show ix + 1 + (d + 1) = (ix + 1 + d) + 1 by omega, nextL_keep (by omega), nextL_behind (by omega), take_nk (l := c.drop (ix + 1)) (k := d) (by rw [List.length_drop]; omega), nk_drop]
    simp
theorem nextL_all1 {ix : Nat} {x : Nod} {c : List Nod} (h : ix < c.length) : nextL 1 ix x c c.length = c.eraseIdx ix := by
  have e := nextL_behind (kd := 1) (ix := ix) (x := x) (c := c) (d := c.length - (ix + 1)) (by omega)
  rw [show ix + 1 + (c.length - (ix + 1)) = c.length by omega, if_neg (by decide), List.append_nil, List.take_of_length_le (l := c.drop (ix + 1)) (by rw [List.length_drop]; exact Nat.le_refl _)] at e
  rw [e, List.eraseIdx_eq_take_drop_succ]
theorem nextL_all3 {ix : Nat} {x : Nod} {c : List Nod} (h : ix < c.length) : nextL 3 ix x c c.length = c.set ix x := by
  have e := nextL_behind (kd := 3) (ix := ix) (x := x) (c := c) (d := c.length - (ix + 1)) (by omega)
  rw [show ix + 1 + (c.length - (ix + 1)) = c.length by omega, if_pos rfl, List.take_of_length_le (l := c.drop (ix + 1)) (by rw [List.length_drop]; exact Nat.le_refl _)] at e
  rw [e, List.set_eq_take_append_cons_drop, if_pos h]
  simp
theorem nextL_all2 {x : Nod} {c : List Nod} : nextL 2 c.length x c c.length = c := by rw [nextL_ahead (Nat.le_refl _) (Nat.le_refl _), List.take_length]
end Go.Creel
