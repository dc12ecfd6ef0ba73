/-
  Texts: SameEnts, SomeL, FieldOf, HeadRefC.
-/
import Derived.Test.YtaffgndickdbiaaGreatDoorR36
set_option linter.unusedVariables false
set_option linter.unusedSimpArgs false
set_option linter.unusedSectionVars false
namespace Go.Creel
theorem bareE_parts {x y : Ent} (h : x.bare = y.bare) : x.path = y.path ∧ x.kind = y.kind ∧ x.target = y.target ∧ x.mt = y.mt ∧ x.data = y.data := by
  unfold Ent.bare at h
  simp only [Ent.mk.injEq, and_true, true_and] at h
  exact h
theorem bareE_nk {l m : List Ent} (h : l.map Ent.bare = m.map Ent.bare) {k : Nat} (hk : k < l.length) : (ek l k).bare = (ek m k).bare := by
  have hl : l.length = m.length := by simpa using congrArg List.length h
  have h2 : (l.map Ent.bare)[k]? = (m.map Ent.bare)[k]? := by rw [h]
  rw [List.getElem?_map, List.getElem?_map, List.getElem?_eq_getElem hk, List.getElem?_eq_getElem (by omega)] at h2
  rw [ek_eq hk, ek_eq (by omega)]
  simpa using h2
theorem bareE_len {l m : List Ent} (h : l.map Ent.bare = m.map Ent.bare) : l.length = m.length := by simpa using congrArg List.length h
end Go.Creel
namespace Go.Proofs.YtaffgndickdbiaaGreatDoor
open Go.Creel Go.RowKit
abbrev boxE (x : Ent) : Obj := .cells #[.string x.path, .int .i64 x.kind, .string x.target, .int .i64 x.mt.mode, .int .i64 x.mt.uid, .int .i64 x.mt.gid, .string x.mt.user, .string x.mt.group, .int .i64 x.mt.second, .int .i64 x.mt.nano, .slice x.da x.data.length x.dcap] 26
set_option maxRecDepth 100000 in
set_option maxHeartbeats 1000000 in
theorem SameEnt_eq (x y : Ent) (w : World) (hxy : x.bare = y.bare) (hx : x.Ok maxLen w) (hy : y.Ok maxLen w) :
    Calls Tryz.prog 21 #[x.val, y.val] w fun e w' => e = .returned (.bool true) ∧ Below w.heap.size w w' := by
  obtain ⟨p, k, t, m, da, dc, d⟩ := x
  obtain ⟨p', k', t', m', da', dc', d'⟩ := y
  obtain ⟨h1, h2, h3, h4, h5⟩ := bareE_parts hxy
  simp only at h1 h2 h3 h4 h5
  subst h1 h2 h3 h4 h5
  have HB := Lib.hid fun o1 o2 : Obj => ((Below.refl w.heap.size w).alloc (Nat.le_refl _) o1).alloc (by simp) o2
  have HS := Lib.hid (fun o1 o2 : Obj => sameBytes_eq (N := maxLen) (M := maxLen) (.slice da d.length dc) (.slice da' d.length dc') d ((w.alloc o1).alloc o2) (hx.data.below (fun _ _ h => h) (HB.out o1 o2)) (hy.data.below (fun _ _ h => h) (HB.out o1 o2)))
  obtain ⟨mo, ui, gi, us, gr, se, na⟩ := m
  have q1 : (p.toList == p.toList) = true := by simp
  have q2 : (k == k) = true := by simp
  have q4 : (t.toList == t.toList) = true := by simp
  have q5 : (mo == mo) = true := by simp
  have q6 : (ui == ui) = true := by simp
  have q7 : (gi == gi) = true := by simp
  have q8 : (us.toList == us.toList) = true := by simp
  have q9 : (gr.toList == gr.toList) = true := by simp
  have q10 : (se == se) = true := by simp
  have q11 : (na == na) = true := by simp
  clear hx hy hxy
  go_enter Tryz.func21, Tryz.ntmps21
  go_wp2_with fail
  refine (HS.out _ _).mono ?_
  rintro e w1 ⟨rfl, rfl⟩
  go_wp2
  go_ret
  exact ⟨rfl, HB.out _ _⟩
set_option maxRecDepth 100000 in
set_option maxHeartbeats 1000000 in
theorem EqualEnts_at (b off cap b2 off2 cap2 : Nat) (l m : List Ent) (w : World) (hpos : 0 < l.length) (hlm : l.map Ent.bare = m.map Ent.bare) (hle : l.length ≤ cap) (hm : cap ≤ maxLen) (hle2 : m.length ≤ cap2) (hm2 : cap2 ≤ maxLen) (hc : EntsAt w b off l) (hc2 : EntsAt w b2 off2 m)
    (hk : ∀ i, i < l.length → (ek l i).Ok maxLen w) (hk2 : ∀ i, i < m.length → (ek m i).Ok maxLen w) :
    Calls Tryz.prog 61 #[.slice (some ⟨b, off, none⟩) l.length cap, .slice (some ⟨b2, off2, none⟩) m.length cap2, .func (.func 21) #[] #[]] w fun e w' => e = .returned (.bool true) ∧ Below w.heap.size w w' := by
  have hl := bareE_len hlm
  unfold maxLen at hm hm2
  have HC := Lib.hid hc
  have HC2 := Lib.hid (fun i (hi : i < l.length) => hc2 i (by omega))
  have HK := Lib.hid hk
  have HK2 := Lib.hid (fun i (hi : i < l.length) => hk2 i (by omega))
  have HLM := Lib.hid (fun k (hk : k < l.length) => bareE_nk hlm hk)
  clear hc hc2 hk hk2 hlm
  rw [← hl] at hle2 ⊢
  clear hl
  generalize hn : l.length = n at *
  go_enter Tryz.func61, Tryz.ntmps61
  go_wp2
  go_loopw [7, 8, 9, 17] (fun _ _ _ i wr => ∃ k : Nat, k ≤ n ∧ i = .int .i64 k ∧ Hid (Below w.heap.size w wr)) (fun _ _ _ i _ => n - (intOf i).toNat)
  case atStart => exact ⟨0, by omega, rfl, Lib.hid (Below.refl _ _)⟩
  case round =>
    obtain ⟨k, hk, rfl, HB⟩ := hrel
    by_cases hlt : k < n
    · obtain ⟨h0, h1, h2, h3, h4, h5, h6, h7, h8, h9, h10⟩ := (HC.out.below HB.out) k (by omega)
      obtain ⟨g0, g1, g2, g3, g4, g5, g6, g7, g8, g9, g10⟩ := ((HC2.out k hlt).below HB.out).below ((Below.refl wr.heap.size wr).alloc (Nat.le_refl _) (boxE (ek l k)))
      have HS := Lib.hid (fun (w3 : World) (hb : Below wr.heap.size wr w3) => SameEnt_eq (ek l k) (ek m k) w3 (HLM.out k hlt) (((HK.out k hlt).below HB.out).below hb) (((HK2.out k hlt).below HB.out).below hb))
      generalize ek l k = x at *
      generalize ek m k = y at *
      go_wp2_with (go_at_call 21; have hbb := ((Below.refl wr.heap.size wr).alloc (Nat.le_refl _) (boxE x)).alloc (by simp) (boxE y); refine (HS.out _ hbb).mono ?_; rintro e w' ⟨rfl, hb2⟩; have HB2 := Lib.hid (HB.out.trans ((hbb.trans (hb2.mono hbb.size)).mono HB.out.size)); clear hb2 hbb)
      go_roundw
      case rel => exact ⟨k + 1, by omega, by go_num, HB2⟩
      case measure => simp [intOf]; omega
    · obtain rfl : k = n := by omega
      go_wp2
      go_ret
      exact ⟨rfl, HB.out⟩
set_option maxRecDepth 100000 in
theorem EqualEnts_nil (a a2 : Option Addr) (cap cap2 : Nat) (f : Value) (w : World) :
    Calls Tryz.prog 61 #[.slice a 0 cap, .slice a2 0 cap2, f] w fun e w' => e = .returned (.bool true) ∧ w = w' := by
  go_enter Tryz.func61, Tryz.ntmps61
  go_wp2
  go_loop [7, 8, 9, 17] (fun _ _ _ i => i = .int .i64 0) (fun _ _ _ i => 0)
  case atStart => rfl
  case round =>
    obtain rfl := hrel
    go_wp2
    go_ret
    exact ⟨rfl, rfl⟩
set_option maxRecDepth 100000 in
theorem SameEnts_eq (v u : Value) (l m : List Ent) (w : World) (hlm : l.map Ent.bare = m.map Ent.bare) (hv : SliceC maxLen 11 (EntC maxLen) w [v] l) (hu : SliceC maxLen 11 (EntC maxLen) w [u] m) :
    Calls Tryz.prog 24 #[v, u] w fun e w' => e = .returned (.bool true) ∧ Below w.heap.size w w' := by
  have hl := bareE_len hlm
  have HQ : Hid (Calls Tryz.prog 61 #[v, u, .func (.func 21) #[] #[]] w fun e w' => e = .returned (.bool true) ∧ Below w.heap.size w w') := Lib.hid (by
    rcases ents_cases hv with ⟨a, cap, rfl, rfl, _⟩ | ⟨b, off, cap, rfl, h1, h2, h3, h6, h4, h5⟩
    · rcases ents_cases hu with ⟨a2, cap2, rfl, rfl, _⟩ | ⟨b, off, cap, rfl, h1, h2, h3, h6, h4, h5⟩
      · refine (EqualEnts_nil a a2 cap cap2 _ w).mono ?_
        rintro e w' ⟨rfl, rfl⟩
        exact ⟨rfl, Below.refl _ _⟩
      · simp at hl; omega
    · rcases ents_cases hu with ⟨a2, cap2, rfl, rfl, _⟩ | ⟨b2, off2, cap2, rfl, g1, g2, g3, g6, g4, g5⟩
      · simp at hl; simp [hl] at h1
      · exact EqualEnts_at b off cap b2 off2 cap2 l m w h1 hlm h2 h3 g2 g3 h4 g4 h5 g5)
  clear hv hu hlm
  go_enter Tryz.func24, Tryz.ntmps24
  go_wp2_with fail
  refine HQ.out.mono ?_
  rintro e w1 ⟨rfl, hb⟩
  have HB := Lib.hid hb
  clear hb
  go_wp2
  go_ret
  exact ⟨rfl, HB.out⟩
open Go.Creel Go.RowKit
abbrev boxE2 (x : Ent) : Obj := (.cells #[.string x.path, .int .i64 x.kind, .string x.target, .int .i64 x.mt.mode, .int .i64 x.mt.uid, .int .i64 x.mt.gid, .string x.mt.user, .string x.mt.group, .int .i64 x.mt.second, .int .i64 x.mt.nano, .slice x.da x.data.length x.dcap] 26)
theorem info_entry2 : (Tryz.prog.info? 26).map (fun i => (i.zero, i.size, i.bytes)) = some (some (.agg #[.string ⟨#[]⟩, .int .i64 0, .string ⟨#[]⟩, .int .i64 0, .int .i64 0, .int .i64 0, .string ⟨#[]⟩, .string ⟨#[]⟩, .int .i64 0, .int .i64 0, .slice none 0 0]), 11, 136) := by kernel_rfl
theorem sofs_eq {a b : List UInt8} (h : a = b) : ((ofL a).toList == (ofL b).toList) = true := by rw [h]; simp
theorem sofs_ne {a b : List UInt8} (h : ¬ a = b) : ((ofL a).toList == (ofL b).toList) = false := by
  have := ne_f h
  simpa using this
theorem entIn_out {t : TypeId} {w wr w2 W : World} {v : Value} {c : List Ent} {x y : Ent} (hx : EntOut wr w2 x y) (hb : Below w2.heap.size w2 W) (hown : OwnEnts t wr w.heap.size v c) : EntIn W v x := by
  refine ⟨hx.2.1.below hb, fun a hp ha e => ?_⟩
  have h3 := hx.2.2 a ha
  have h4 := (World.ownsRow.lt hown.1 _ e).2
  omega
set_option maxRecDepth 100000 in
set_option maxHeartbeats 2000000 in
theorem SomeL_any (v : Value) (b : List UInt8) (w : World) (h : SliceC maxLen 1 ByteC w [v] b) (hbl : b.length ≤ 1048576) (hM : MaxOk w) (hE : ErrsOk w) (hT : Pow10 w) :
    Calls Tryz.prog 25 #[v] w (RetSome 26 w (someOf b)) := by
  obtain ⟨a, cap, hv, hcp⟩ := bytes_form h
  subst hv
  obtain ⟨i0, hi, hz0, hz1, hz2⟩ := info_parts info_entry2
  have HI := Lib.hid (And.intro hi (And.intro hz0 (And.intro hz1 hz2)))
  have hs2 : ∀ (k : Nat), k ≤ b.length → ∀ W : World, (Instr.slice 24 (.slice a b.length cap) (some (.int .i64 (k : Int))) none none).run Tryz.prog W = .ok (sliced a k b.length cap 1) W := fun k hk W => run_dropB W a b.length cap k hk hcp
  have HS2 := Lib.hid hs2
  have HDR := Lib.hid (fun k (hk : k ≤ b.length) => bytes_drop (i := k) h hk)
  have HGET := Lib.hid (fun (v2 : Value) (b2 : List UInt8) (W : World) (h2 : SliceC maxLen 1 ByteC W [v2] b2) (hl : b2.length ≤ 1048576) (hb : Below w.heap.size w W) => MemRd_any v2 b2 W h2 hl (hM.below hb) (hE.below hb) (hT.below hb))
  have HSO : Hid (someOf b = someGo b (b.length + 1) 0 []) := Lib.hid rfl
  generalize someOf b = so at *
  clear h hM hE hT hi hz0 hz1 hz2 hs2
  go_enter Tryz.func25, Tryz.ntmps25
  go_wp2_with fail
  go_loopw [5, 6, 7, 8, 9, 10] (fun u5 u6 _ _ _ _ wr => ∃ (k f : Nat) (acc acc' : List Ent), k ≤ b.length ∧ u6 = .int .i64 (k : Int) ∧ b.length ≤ f + k ∧ acc.length * 512 ≤ k ∧ Hid (so = someGo b (f + 1) k acc) ∧ Hid (acc'.map Ent.bare = acc.map Ent.bare) ∧ Hid (∀ x ∈ acc', ∀ p, x.da = some p → w.heap.size ≤ p.block) ∧ Hid (OwnEnts 26 wr w.heap.size u5 acc') ∧ Hid (Below w.heap.size w wr)) (fun _ u6 _ _ _ _ _ => b.length - (intOf u6).toNat)
  case atStart => exact ⟨0, b.length, [], [], by omega, rfl, by omega, by simp, HSO, Lib.hid rfl, Lib.hid (fun x hx => absurd hx (by simp)), Lib.hid (OwnEnts.nil _ _ _), Lib.hid (Below.refl _ _)⟩
  case round =>
    obtain ⟨k, f, acc, acc', hk, rfl, hfk, hal, HSG, HBR, HPL, HOW, HB⟩ := hrel
    obtain ⟨vv, rfl⟩ : ∃ V : Value, V = u5 := ⟨_, rfl⟩
    have hlen : acc'.length = acc.length := bareE_len HBR.out
    obtain ⟨ak, ck, hsk, hcpk⟩ := bytes_form (HDR.out k hk)
    have hsl2 : ∀ W : World, (Instr.slice 24 (.slice a b.length cap) (some (.int .i64 (k : Int))) none none).run Tryz.prog W = .ok (.slice ak (b.drop k).length ck) W := fun W => by rw [← hsk]; exact HS2.out k hk W
    have HD := HDR.out k hk
    rw [hsk] at HD
    obtain ⟨bk, hbk⟩ : ∃ bk, bk = b.drop k := ⟨_, rfl⟩
    have HQ1 := Lib.hid (fun h => HSG.out.trans (someGo_short (b := b) (f := f) (k := k) (acc := acc) h))
    have HQ2 := Lib.hid (fun h h2 => HSG.out.trans (someGo_zero (b := b) (f := f) (k := k) (acc := acc) h h2))
    have HQ3 := Lib.hid (fun h h2 x n e h3 he => HSG.out.trans (someGo_bad (b := b) (f := f) (k := k) (acc := acc) h h2 (x := x) (n := n) (e := e) h3 he))
    have HQ4 := Lib.hid (fun h h2 x n h3 => HSG.out.trans (someGo_step (b := b) (f := f) (k := k) (acc := acc) h h2 (x := x) (n := n) h3))
    have hbl2 : bk.length + k = b.length := by rw [hbk, List.length_drop]; omega
    rw [← hbk] at HQ1 HQ2 HQ3 HQ4 HD hsl2 hcpk
    clear hsk hbk HSG
    by_cases hsh : bk.length < 512
    · have hd : ((bk.length : Int) < 512) := by omega
      have HQ := Lib.hid (HQ1.out hsh)
      clear HQ1 HQ2 HQ3 HQ4 hsh
      go_wp2
      go_ret3
      rw [HQ.out]
      exact ⟨_, acc', rfl, HOW.out, HBR.out, by omega, HPL.out, HB.out⟩
    · have hd : ¬ ((bk.length : Int) < 512) := by omega
      have htk : ∀ W : World, (Instr.slice 24 (.slice ak bk.length ck) none (some (.int .i64 512)) none).run Tryz.prog W = .ok (.slice ak 512 ck) W := fun W => run_takeB W ak bk.length ck 512 (by omega) hcpk
      have htl : (bk.take 512).length = 512 := by rw [List.length_take]; omega
      have HZ0 := Lib.hid (Zero_any (.slice ak 512 ck) (bk.take 512) wr (bytesBelow (bytes_take HD (by omega)) HB.out))
      rw [htl] at HZ0
      by_cases hz : bk.take 512 = zeroN 512
      · have HQ := Lib.hid (HQ2.out hsh hz)
        have HZ1 : Hid (Calls Tryz.prog 62 #[.slice ak 512 ck] wr fun e w' => e = .returned (.bool true) ∧ wr = w') := Lib.hid (by have := HZ0.out; rw [decide_eq_true hz] at this; exact this)
        clear HQ1 HQ2 HQ3 HQ4 hsh hz HZ0
        go_wp2_with fail
        refine HZ1.out.mono ?_
        rintro e w1 ⟨rfl, rfl⟩
        go_wp2
        go_ret3
        rw [HQ.out]
        exact ⟨_, acc', rfl, HOW.out, HBR.out, by omega, HPL.out, HB.out⟩
      · have HZ1 : Hid (Calls Tryz.prog 62 #[.slice ak 512 ck] wr fun e w' => e = .returned (.bool false) ∧ wr = w') := Lib.hid (by have := HZ0.out; rw [decide_eq_false hz] at this; exact this)
        clear HZ0
        go_wp2_with fail
        refine HZ1.out.mono ?_
        rintro e w1 ⟨rfl, rfl⟩
        have HDW := Lib.hid (bytesBelow HD HB.out)
        have HCALL := Lib.hid (HGET.out (.slice ak bk.length ck) bk wr HDW.out (by omega) HB.out)
        obtain ⟨⟨y, n, e0⟩, hmo⟩ : ∃ q, memOf bk = q := ⟨_, rfl⟩
        have HRNG := Lib.hid (fun he => memOf_rng (b := bk) he)
        rw [hmo] at HCALL HRNG
        simp only at HRNG
        go_wp2_with fail
        refine HCALL.out.mono ?_
        rintro e w2 ⟨x, rfl, hx, hb2⟩
        have HB2 := Lib.hid (HB.out.trans (hb2.mono HB.out.size))
        have HX := Lib.hid hx
        have HBB := Lib.hid hb2
        have HO2 := Lib.hid (HOW.out.below hb2)
        clear hx hb2 HCALL
        by_cases he : e0 = 0
        · subst he
          obtain ⟨m, hm, hm1, hm2⟩ := HRNG.out rfl
          (try simp only at hm)
          subst hm
          have HQ := Lib.hid (HQ4.out hsh hz _ _ hmo)
          clear HQ1 HQ2 HQ3 HQ4 HRNG hsh hz hmo
          go_upto_region 11 with fail
          have HA1 := Lib.hid ((Below.refl w2.heap.size w2).alloc (Nat.le_refl _) (.cells #[.string x.path, .int .i64 x.kind, .string x.target, .int .i64 x.mt.mode, .int .i64 x.mt.uid, .int .i64 x.mt.gid, .string x.mt.user, .string x.mt.group, .int .i64 x.mt.second, .int .i64 x.mt.nano, .slice x.da x.data.length x.dcap] 26))
          have HBX : Hid ((w2.alloc (.cells #[.string x.path, .int .i64 x.kind, .string x.target, .int .i64 x.mt.mode, .int .i64 x.mt.uid, .int .i64 x.mt.gid, .string x.mt.user, .string x.mt.group, .int .i64 x.mt.second, .int .i64 x.mt.nano, .slice x.da x.data.length x.dcap] 26)).heap[w2.heap.size]? = some (.cells #[.string x.path, .int .i64 x.kind, .string x.target, .int .i64 x.mt.mode, .int .i64 x.mt.uid, .int .i64 x.mt.gid, .string x.mt.user, .string x.mt.group, .int .i64 x.mt.second, .int .i64 x.mt.nano, .slice x.da x.data.length x.dcap] 26 (0, 0))) := Lib.hid (heap_alloc_new _ _)
          generalize w2.alloc (.cells #[.string x.path, .int .i64 x.kind, .string x.target, .int .i64 x.mt.mode, .int .i64 x.mt.uid, .int .i64 x.mt.gid, .string x.mt.user, .string x.mt.group, .int .i64 x.mt.second, .int .i64 x.mt.nano, .slice x.da x.data.length x.dcap] 26) = W at *
          have HBW2 := Lib.hid (HB2.out.trans (HA1.out.mono HB2.out.size))
          obtain ⟨c0, c1, c2, c3, c4, c5, c6, c7, c8, c9, c10⟩ := cells11 HBX.out
          have HA := Lib.hid (HBW2.out.alloc HBW2.out.size (boxE2 x))
          have HWA := Lib.hid ((Below.refl W.heap.size W).alloc (Nat.le_refl _) (boxE2 x))
          have HO3 := Lib.hid ((HO2.out.below HA1.out).below HWA.out)
          have HN3 := Lib.hid (entIn_out HX.out (HA1.out.trans (HWA.out.mono HA1.out.size)) HOW.out)
          go_wp2_with (at_builtin; refine wpList_app _ rfl (.tmp 35) (.tmp 37) 32 32 rfl _ _ rfl rfl (fun ty => app_src _ 32 32 ty w.heap.size 26 i0 _ 11 136 Tryz.underlying32 HI.out.1 HI.out.2.1 HI.out.2.2.1 HI.out.2.2.2 rfl (by decide) _ _ acc'.length 1 _ _ HO3.out.1 (src_ent W _ _ _ Tryz.underlying32 x) (by unfold maxLen; omega) (by omega) HA.out.size) ?_; intro v3 w5 ho2 hg2 hv2; have HZ := Lib.hid (And.intro ho2 (And.intro hg2 hv2.2)); clear ho2 hg2 hv2)
          have HO4 := Lib.hid (HO3.out.app (m := [x]) (fun z hz => by rw [List.mem_singleton.1 hz]; exact HN3.out) HZ.out.1 HZ.out.2.1 HZ.out.2.2)
          have HB4 := Lib.hid (below_app HA.out HZ.out.2.1 HO3.out.1 HA.out.size)
          obtain ⟨f2, rfl⟩ : ∃ f2, f = f2 + 1 := ⟨f - 1, by omega⟩
          go_wp2
          go_roundw
          case rel => exact ⟨k + m, f2, acc ++ [y], acc' ++ [x], by omega, by go_num, by omega, by simp only [List.length_append, List.length_cons, List.length_nil]; omega, HQ, Lib.hid (by rw [List.map_append, List.map_append, HBR.out]; congr 1; simp only [List.map_cons, List.map_nil]; rw [HX.out.1]), Lib.hid (fun z hz p hp => by
            rcases List.mem_append.1 hz with h | h
            · exact HPL.out z h p hp
            · rw [List.mem_singleton.1 h] at hp; exact Nat.le_trans HB.out.size (HX.out.2.2 p hp)), HO4, HB4⟩
          case measure => simp [intOf]; omega
        · have hq : (e0 != 0) = true := by rw [bne_iff_ne]; exact he
          have HQ := Lib.hid (HQ3.out hsh hz _ _ _ hmo he)
          have HBF := Lib.hid (HB2.out.alloc HB2.out.size (.cells #[.string x.path, .int .i64 x.kind, .string x.target, .int .i64 x.mt.mode, .int .i64 x.mt.uid, .int .i64 x.mt.gid, .string x.mt.user, .string x.mt.group, .int .i64 x.mt.second, .int .i64 x.mt.nano, .slice x.da x.data.length x.dcap] 26))
          have HOF := Lib.hid (HO2.out.below ((Below.refl w2.heap.size w2).alloc (Nat.le_refl _) (.cells #[.string x.path, .int .i64 x.kind, .string x.target, .int .i64 x.mt.mode, .int .i64 x.mt.uid, .int .i64 x.mt.gid, .string x.mt.user, .string x.mt.group, .int .i64 x.mt.second, .int .i64 x.mt.nano, .slice x.da x.data.length x.dcap] 26)))
          clear HQ1 HQ2 HQ3 HQ4 HRNG hsh hz hmo he
          go_wp2
          go_ret3
          rw [HQ.out]
          exact ⟨_, acc', rfl, HOF.out, HBR.out, by omega, HPL.out, HBF.out⟩
open Go.Creel Go.RowKit
set_option maxRecDepth 100000 in
set_option maxHeartbeats 1000000 in
theorem FieldOf_any (s : ByteArray) (b : Bool) (w : World) (hs : s.size ≤ maxLen) :
    Calls Tryz.prog 178 #[.string s, .bool b] w fun e w' => e = .returned (.tuple #[.string (fieldOf s b).1, .int .i64 (fieldOf s b).2]) ∧ Below w.heap.size w w' := by
  have hs' := hs
  unfold maxLen at hs
  by_cases h : s.size < 1 ∨ 512 < s.size
  · have HF := Lib.hid (fieldOf_range (b := b) h)
    by_cases h0 : s.size = 0
    · have he := empty_t h0
      clear h h0
      go_enter Tryz.func178, Tryz.ntmps178
      go_wp2
      go_ret2
      exact ⟨ret_si HF.out, Below.refl _ _⟩
    · have he := empty_f h0
      have h1 : 512 < s.size := by omega
      clear h h0
      go_enter Tryz.func178, Tryz.ntmps178
      go_wp2
      go_ret2
      exact ⟨ret_si HF.out, Below.refl _ _⟩
  · have h1 : 1 ≤ s.size := by omega
    have h2 : s.size ≤ 512 := by omega
    have he := empty_f (a := s) (by omega)
    have HN := Lib.hid h
    clear h
    go_enter Tryz.func178, Tryz.ntmps178
    go_wp2
    go_loop [6] (fun i => ∃ k : Nat, k ≤ s.size ∧ i = .int .i64 k ∧ Hid (∀ j, j < k → byt s j ≠ 0)) (fun i => s.size - (intOf i).toNat)
    case atStart => exact ⟨0, by omega, rfl, fun j hj => absurd hj (by omega)⟩
    case round =>
      obtain ⟨k, hk, rfl, HD⟩ := hrel
      have hgo : (k < s.size ∧ byt s k ≠ 0) ∨ (k = s.size ∧ zpos s = k) ∨ (k < s.size ∧ byt s k = 0 ∧ zpos s = k) := by
        by_cases h1 : k < s.size
        · by_cases h2 : byt s k = 0
          · exact .inr (.inr ⟨h1, h2, (zpos_yes h1 h2 HD.out).1⟩)
          · exact .inl ⟨h1, h2⟩
        · obtain rfl : k = s.size := by omega
          exact .inr (.inl ⟨rfl, (zpos_no HD.out).1⟩)
      have hzr := fun w => zeros_any ((s.size : Int) - k) w (by omega) (by omega)
      have ez : ((s.size : Int) - k).toNat = s.size - k := by omega
      rw [ez] at hzr
      have HZ := Lib.hid hzr
      clear hzr ez
      have heq : allz (s.extract k s.size) ↔ s.extract k s.size = zerosS (s.size - k) := (allz_eq (by simp)).symm
      rcases hgo with ⟨hlt, hne⟩ | ⟨hke, hzp⟩ | ⟨hlt, hz, hzp⟩
      · have HB := Lib.hid (byt_get s k hlt)
        have hb' : s[k].toNat < 256 := UInt8.toNat_lt _
        have hq : (((s[k].toNat : Nat) : Int) != 0) = true := by rw [HB.out, bne_iff_ne]; omega
        have HNE := Lib.hid hne
        clear hne heq
        go_wp2
        go_round
        case rel =>
          refine ⟨k + 1, by omega, by go_num, fun j hj => ?_⟩
          by_cases e : j = k
          · rw [e]; exact HNE.out
          · exact HD.out j (by omega)
        case measure => simp [intOf]; omega
      · have hall : allz (s.extract k s.size) := by
          intro x hx
          rw [hke, extract_none] at hx
          cases hx
        have hks : ((k : Int) == (s.size : Int)) = true := by rw [beq_iff_eq]; omega
        have hnl : decide ((k : Int) < (s.size : Int)) = false := by rw [decide_eq_false_iff_not]; omega
        have hcmp := sne_f (heq.1 hall)
        cases b with
        | false =>
          have HF := Lib.hid (fieldOf_form (b := false) HN.out (.inl ⟨hzp.trans hke, rfl⟩))
          clear hzp hall heq hke
          go_wp2
          go_quiet ((go_at_call 60; exact quiet_same (HZ.out _)))
          go_wp2
          go_ret2
          exact ⟨ret_si HF.out, below_draws _ _ _⟩
        | true =>
          have HF := Lib.hid ((fieldOf_yes (b := true) HN.out (by rw [hzp]; exact fun h => h.elim (fun h => by cases h.2) (fun h => h hall))).trans (by rw [hzp]))
          clear hzp hall heq hke
          go_wp2
          go_quiet ((go_at_call 60; exact quiet_same (HZ.out _)))
          go_wp2
          go_ret2
          exact ⟨ret_si HF.out, below_draws _ _ _⟩
      · have HB := Lib.hid (byt_get s k hlt)
        have hb' : s[k].toNat < 256 := UInt8.toNat_lt _
        have hq : (((s[k].toNat : Nat) : Int) != 0) = false := by rw [HB.out, hz]; rfl
        have hks : ((k : Int) == (s.size : Int)) = false := by rw [beq_eq_false_iff_ne]; omega
        by_cases hall : allz (s.extract k s.size)
        · have hcmp := sne_f (heq.1 hall)
          have HF := Lib.hid ((fieldOf_yes (b := b) HN.out (by rw [hzp]; exact fun h => h.elim (fun h => by have := h.1; omega) (fun h => h hall))).trans (by rw [hzp]))
          clear hz hzp hall heq
          go_wp2
          go_quiet ((go_at_call 60; exact quiet_same (HZ.out _)))
          go_wp2
          go_ret2
          exact ⟨ret_si HF.out, below_draws _ _ _⟩
        · have hcmp := sne_t (fun e => hall (heq.2 e))
          have HF := Lib.hid (fieldOf_form (b := b) HN.out (.inr (by rw [hzp]; exact hall)))
          clear hz hzp hall heq
          go_wp2
          go_quiet ((go_at_call 60; exact quiet_same (HZ.out _)))
          go_wp2
          go_ret2
          exact ⟨ret_si HF.out, below_draws _ _ _⟩
end Go.Proofs.YtaffgndickdbiaaGreatDoor
namespace Go.Creel
open Go.RowKit
structure RefE (te : TypeId) (fv : Value) (w : World) (bs bw bn : Nat) (s : ByteArray) (e : Int) : Prop where
  str : w.cell? ⟨bs, 0, none⟩ = some (.string s)
  fn : w.cell? ⟨bn, 0, none⟩ = some fv
  worst : w.heap[bw]? = some (.cells #[.int .i64 e] te (0, 0))
  sw : bs ≠ bw
  nw : bn ≠ bw
variable {te : TypeId} {fv : Value} {w w' : World} {bs bw bn : Nat} {s : ByteArray} {e e' : Int}
theorem RefE.wc (h : RefE te fv w bs bw bn s e) : w.cell? ⟨bw, 0, none⟩ = some (.int .i64 e) := by rw [cell_of_row w bw 0 _ te (0, 0) h.worst]; rfl
theorem RefE.wf (h : RefE te fv w bs bw bn s e) : w.frozen? ⟨bw, 0, none⟩ = false := frozen_of_row w bw 0 _ te h.worst
theorem RefE.lt (h : RefE te fv w bs bw bn s e) : bs < w.heap.size ∧ bn < w.heap.size ∧ bw < w.heap.size := ⟨World.block_lt_of_cell? w _ h.str, World.block_lt_of_cell? w _ h.fn, (Array.getElem?_eq_some_iff.1 h.worst).1⟩
theorem RefE.put (h : RefE te fv w bs bw bn s e) (e' : Int) : RefE te fv (w.setCell ⟨bw, 0, none⟩ (.int .i64 e')) bs bw bn s e' := by
  refine ⟨?_, ?_, ?_, h.sw, h.nw⟩
  · rw [World.cell?_setCell_other _ _ _ _ (fun e => h.sw (congrArg Addr.block e).symm)]; exact h.str
  · rw [World.cell?_setCell_other _ _ _ _ (fun e => h.nw (congrArg Addr.block e).symm)]; exact h.fn
  · rw [heap_setCell_same w bw 0 _ te _ h.worst]; rfl
theorem RefE.below (h : RefE te fv w bs bw bn s e) (hb : Below w.heap.size w w') : RefE te fv w' bs bw bn s e := by
  obtain ⟨l1, l2, l3⟩ := h.lt
  exact ⟨(hb.cell (p := ⟨bs, 0, none⟩) l1).trans h.str, (hb.cell (p := ⟨bn, 0, none⟩) l2).trans h.fn, (hb.block bw l3).trans h.worst, h.sw, h.nw⟩
end Go.Creel
namespace Go.Proofs.YtaffgndickdbiaaGreatDoor
open Go.Creel Go.RowKit
abbrev tErr : TypeId := 27
abbrev noteV (bw : Nat) : Value := .func (.func 176) #[] #[.pointer (some ⟨bw, 0, none⟩)]
set_option maxRecDepth 100000 in
theorem RNote_any (bs bw bn : Nat) (s : ByteArray) (e f : Int) (w : World) (h : RefE tErr (noteV bw) w bs bw bn s e) :
    Calls Tryz.prog 176 #[.int .i64 f, .pointer (some ⟨bw, 0, none⟩)] w fun x w' => x = .returned (.tuple #[]) ∧ RefE tErr (noteV bw) w' bs bw bn s (note e f) ∧ w.grownBy w' (some bw) := by
  have H := Lib.hid h
  have c1 := h.wc
  have f1 := h.wf
  have HG := Lib.hid (grown_set w bw 0 (.int .i64 f))
  clear h
  by_cases h0 : e = 0
  · have hq : (e == 0) = true := by rw [beq_iff_eq]; exact h0
    have HN := Lib.hid (note_ok (f := f) h0)
    clear h0
    go_enter Tryz.func176, Tryz.ntmps176
    go_wp2
    go_end0
    rw [HN.out]
    exact ⟨rfl, H.out.put _, HG.out⟩
  · have hq : (e == 0) = false := by rw [beq_eq_false_iff_ne]; exact h0
    have HN := Lib.hid (note_bad (f := f) h0)
    clear h0
    go_enter Tryz.func176, Tryz.ntmps176
    go_wp2
    go_end0
    rw [HN.out]
    exact ⟨rfl, H.out, grown_refl _ _⟩
set_option maxRecDepth 100000 in
theorem RText_any (bs bw bn : Nat) (s : ByteArray) (a b : Nat) (wh : Bool) (e : Int) (w : World) (p : ByteArray × Int) (hp : fieldOf (s.extract a b) wh = p) (h : RefE tErr (noteV bw) w bs bw bn s e) (hab : a ≤ b) (hb : b ≤ s.size) (hs : s.size ≤ 1000) :
    Calls Tryz.prog 177 #[.int .i64 a, .int .i64 b, .bool wh, .pointer (some ⟨bs, 0, none⟩), .pointer (some ⟨bn, 0, none⟩)] w fun x w' => x = .returned (.string p.1) ∧ RefE tErr (noteV bw) w' bs bw bn s (note e p.2) ∧ w.grownBy w' (some bw) := by
  have HF := Lib.hid (fun w => FieldOf_any (s.extract a b) wh w (by unfold maxLen; simp; omega))
  have HN := Lib.hid (fun w f h => RNote_any bs bw bn s e f w h)
  have H := Lib.hid h
  have c0 := h.str
  rw [hp] at HF
  obtain ⟨p1, p2⟩ := p
  clear h hp
  go_enter Tryz.func177, Tryz.ntmps177
  go_wp2_with fail
  refine (HF.out _).mono ?_
  rintro x w2 ⟨rfl, hb2⟩
  have H2 := Lib.hid (H.out.below hb2)
  have G2 := Lib.hid (grown_below (row := some bw) hb2)
  have c1 := H2.out.fn
  clear hb2
  go_wp2_with fail
  refine (HN.out _ _ H2.out).mono ?_
  rintro x w3 ⟨rfl, h1, g1⟩
  have H3 := Lib.hid h1
  have G3 := Lib.hid (grown_trans G2.out g1)
  clear h1 g1
  go_wp2
  go_ret
  exact ⟨rfl, H3.out, G3.out⟩
set_option maxRecDepth 100000 in
theorem RNum_any (bs bw bn : Nat) (s : ByteArray) (a b : Nat) (e : Int) (w : World) (p : Int × Int) (hp : octOf (s.extract a b) = p) (h : RefE tErr (noteV bw) w bs bw bn s e) (hab : a ≤ b) (hb : b ≤ s.size) (hs : s.size ≤ 1000) :
    Calls Tryz.prog 179 #[.int .i64 a, .int .i64 b, .pointer (some ⟨bs, 0, none⟩), .pointer (some ⟨bn, 0, none⟩)] w fun x w' => x = .returned (.int .i64 p.1) ∧ RefE tErr (noteV bw) w' bs bw bn s (note e p.2) ∧ w.grownBy w' (some bw) := by
  have HF := Lib.hid (fun w => OctalOf_any (s.extract a b) w (by unfold maxLen; simp; omega))
  have HN := Lib.hid (fun w f h => RNote_any bs bw bn s e f w h)
  have H := Lib.hid h
  have c0 := h.str
  rw [hp] at HF
  obtain ⟨p1, p2⟩ := p
  clear h hp
  go_enter Tryz.func179, Tryz.ntmps179
  go_wp2_with fail
  refine (HF.out _).mono ?_
  rintro x w2 ⟨rfl, hb2⟩
  have H2 := Lib.hid (H.out.below hb2)
  have G2 := Lib.hid (grown_below (row := some bw) hb2)
  have c1 := H2.out.fn
  clear hb2
  go_wp2_with fail
  refine (HN.out _ _ H2.out).mono ?_
  rintro x w3 ⟨rfl, h1, g1⟩
  have H3 := Lib.hid h1
  have G3 := Lib.hid (grown_trans G2.out g1)
  clear h1 g1
  go_wp2
  go_ret
  exact ⟨rfl, H3.out, G3.out⟩
set_option maxRecDepth 100000 in
theorem RJust_any (bs bw bn : Nat) (s t : ByteArray) (a b m : Nat) (e j : Int) (w : World) (hj : justE s a b t = j) (h : RefE tErr (noteV bw) w bs bw bn s e) (hm : t.size = m) (hab : a + m = b) (hb : b ≤ s.size) (hs : s.size ≤ 1000) :
    Calls Tryz.prog 181 #[.int .i64 a, .string t, .pointer (some ⟨bs, 0, none⟩), .pointer (some ⟨bn, 0, none⟩)] w fun x w' => x = .returned (.tuple #[]) ∧ RefE tErr (noteV bw) w' bs bw bn s (note e j) ∧ w.grownBy w' (some bw) := by
  have HN := Lib.hid (fun w f h => RNote_any bs bw bn s e f w h)
  have H := Lib.hid h
  have c0 := h.str
  clear h
  subst hab
  by_cases he : s.extract a (a + m) = t
  · have hq := seq_t he
    have HJ := Lib.hid (show note e j = e by
      rw [← hj]; unfold justE note; rw [if_pos he]; split <;> omega)
    clear he hj
    go_enter Tryz.func181, Tryz.ntmps181
    go_wp2
    go_end0
    rw [HJ.out]
    exact ⟨rfl, H.out, grown_refl _ _⟩
  · have hq := seq_f he
    have HJ := Lib.hid (show j = 3 by rw [← hj]; unfold justE; rw [if_neg he])
    clear he hj
    have c1 := H.out.fn
    go_enter Tryz.func181, Tryz.ntmps181
    go_wp2_with fail
    refine (HN.out _ _ H.out).mono ?_
    rintro x w3 ⟨rfl, h1, g1⟩
    have H3 := Lib.hid h1
    have G3 := Lib.hid g1
    clear h1 g1
    go_wp2
    go_end0
    rw [HJ.out]
    exact ⟨rfl, H3.out, G3.out⟩
end Go.Proofs.YtaffgndickdbiaaGreatDoor
