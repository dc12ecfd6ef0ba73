/-
  plan.Tree, walked.
-/
import Derived.Test.YtiiojjhfncefgaaDoorGrowL
namespace Go.Proofs.YtiiojjhfncefgaaDoor
set_option linter.unusedVariables false
set_option linter.unusedSimpArgs false
open Go.Creel Go.RowKit
set_option maxRecDepth 100000 in
set_option maxHeartbeats 8000000 in
theorem GrowL_at (b off cap : Nat) (l : List Ent) (w : World) (hM : MaxOk w) (hpos : 0 < l.length) (hle : l.length ≤ cap) (hm : cap ≤ maxLen) (hc : EntsAt w b off l) (hok : ∀ i, i < l.length → (ek l i).Ok maxLen w) (h : SliceC maxLen 11 (EntC maxLen) w [.slice (some ⟨b, off, none⟩) l.length cap] l) :
    Calls Tryd.prog 29 #[.slice (some ⟨b, off, none⟩) l.length cap] w (RetTE 36 w (grown l)) := by
  obtain ⟨i0, hi, hz0, hz1, hz2⟩ := info_parts info_node
  have HI := Lib.hid (And.intro hi (And.intro hz0 (And.intro hz1 hz2)))
  have H := Lib.hid h
  have HC := Lib.hid hc
  have HK := Lib.hid hok
  have HM := Lib.hid hM
  unfold maxLen at hm
  clear h hc hok hM hi hz0 hz1 hz2
  by_cases hE : entsFault l = 0
  · have HF := Lib.hid (grown_ok hE)
    have hfew := (entsFault_all hE).1
    have HZ := Lib.hid hE
    have HD := Lib.hid (growL_dat hE)
    have HGO := Lib.hid (fun (q : Nat) (hq : q ≤ l.length) => growL_ok (w := w) hE HK.out hq)
    have hmm := @run_makeMap Tryd.prog
    clear hE
    go_enter Tryd.func29, Tryd.ntmps29
    go_wp2_with fail
    refine (EntsCheck_any _ l _ HM.out H.out).mono ?_
    rintro e w1 ⟨rfl, hb⟩
    rw [HZ.out]
    have HB1 := Lib.hid hb
    have HMS := Lib.hid (MapIs.made (fun s : ByteArray => Value.string s) w1)
    have HMB := Lib.hid (hb.alloc hb.size (.map #[] 0))
    have HWM := Lib.hid hb.size
    clear hb
    go_wp2
    clear hmm
    generalize hmb : w1.heap.size = mb at HMS
    have HMBE := Lib.hid hmb
    have hwm : w.heap.size ≤ mb := by rw [← hmb]; exact HWM.out
    clear hmb HWM
    go_loopw [5, 7, 8, 9, 10, 19] (fun v _ _ _ _ i wr => ∃ (k : Nat) (m : List (ByteArray × Value)), k ≤ l.length ∧ i = .int .i64 k ∧ Hid (OwnNods 36 wr (mb + 1) v (growL l k)) ∧ Hid (Below w.heap.size w wr) ∧ Hid (MapIs (fun s : ByteArray => Value.string s) wr mb m) ∧ Hid (PlaceIs l k m)) (fun _ _ _ _ _ i _ => l.length - (intOf i).toNat)
    case atStart => exact ⟨0, [], by omega, rfl, Lib.hid (OwnNods.nil _ _ _), HMB, HMS, Lib.hid (PlaceIs.start l)⟩
    case round =>
      obtain ⟨k, m, hk, rfl, HO, HB, HMI, HPL⟩ := hrel
      by_cases hlt : k < l.length
      · obtain ⟨h0, h1, h2, h3, h4, h5, h6, h7, h8, h9, h10⟩ := (HC.out.below HB.out) k hlt
        have HX := Lib.hid (HK.out k hlt)
        have HXN := Lib.hid (Ent.nod_ok HX.out (s := 0) (by unfold i64; omega))
        have HPP := Lib.hid (fun (W : World) => PlaceIs.put (m := m) HPL.out hlt HZ.out)
        have HFI := Lib.hid (fun h => growL_file HZ.out hlt h)
        have HLI := Lib.hid (fun h => growL_link HZ.out hlt h)
        have HLF := Lib.hid (fun h => link_facts HZ.out hlt h)
        have HLE : Hid (linkAt l k = entFind (l.take k) (ek l k).target) := Lib.hid rfl
        have HKC := Lib.hid (HGO.out (k + 1) (by omega))
        have hkk := (HX.out.kind)
        generalize hx : ek l k = x at *
        have HEX := Lib.hid hx
        clear hx
        have HTW : Hid (TwoAt 88 36 w wr ((wr.alloc (.cells #[.string x.path, .int .i64 x.kind, .string x.target, .int .i64 x.mt.mode, .int .i64 x.mt.uid, .int .i64 x.mt.gid, .string x.mt.user, .string x.mt.group, .int .i64 x.mt.second, .int .i64 x.mt.nano, .slice x.da x.data.length x.dcap] 88)).alloc (.cells #[.string x.path, .int .i64 x.kind, .int .i64 0, .string x.target, .int .i64 x.mt.mode, .int .i64 x.mt.uid, .int .i64 x.mt.gid, .string x.mt.user, .string x.mt.group, .int .i64 x.mt.second, .int .i64 x.mt.nano, .slice x.da x.data.length x.dcap] 36)) mb wr.heap.size u5 m x (growL l k)) := Lib.hid (TwoAt.made (te := 88) HX.out HO.out HB.out HMI.out)
        go_upto_region 10 with fail
        generalize World.alloc (World.alloc wr _) _ = w2 at *
        generalize wr.heap.size = b1 at *
        have hbl := HTW.out.mblt
        have HKL := Lib.hid (show k ≤ 40 by omega)
        obtain ⟨e0, e1, e2, e3, e4, e5, e6, e7, e8, e9, e10⟩ := HTW.out.ent.zero
        go_upto_if 37 with fail
        generalize hkb : (x.kind == 4) = kb at *
        have HKB := Lib.hid hkb
        clear hkb
        go_cut [10] from 38 to 54 (fun _ wx => ∃ (z : Nod) (c : List Nod), Hid (GrowAt 36 w wx l k mb b1 (b1 + 1) u5 m z c))
        case first =>
          cases kb with
          | true =>
            have hk4 : x.kind = 4 := by have := HKB.out; rwa [beq_iff_eq] at this
            obtain ⟨hq1, _⟩ := HLF.out hk4
            have hall := HLI.out hk4
            rw [HLE.out] at hq1 hall
            have hform := HTW.out.own.form
            rcases hform with ⟨_, e0'⟩ | ⟨g, cap', hv, hgB, _, hgc, hgm⟩
            · have := congrArg List.length e0'
              rw [growL_len] at this
              simp at this
              omega
            · rw [growL_len] at hgc hv
              subst hv
              have hlook := place_look HTW.out.map HPL.out x.target hq1
              have hN := growL_at l hq1
              generalize entFind (l.take k) x.target = q at *
              have HLS := Lib.hid (LinkSt.begin (N := growN l k q) HTW.out hwm HX.out hq1 hN hall HKC.out (by have := HKL.out; omega))
              have hps := HTW.out.own.putSame (growL_len l k) hq1 ((q : Int) + 1) (by unfold i64; have := HKL.out; omega)
              have hcq := hps.2.1
              have hfq := hps.2.2.1
              clear hk4 hall hN hps
              generalize growN l k q = N at *
              go_upto_region 12 with fail
              go_cut [] from 42 to 47 (fun wx => Hid (LinkSt 36 w wx l k q mb b1 g cap' m x { N with same := (q : Int) + 1 } (x.nod 0) ((growL l k).set q { N with same := (q : Int) + 1 })))
              case first =>
                go_wp2
                go_meet
                exact HLS
              case rest =>
                clear HLS hcq hfq e0 e1 e2 e3 e4 e5 e6 e7 e8 e9 e10
                generalize ({ N with same := (q : Int) + 1 } : Nod) = y at *
                generalize (growL l k).set q y = c at *
                have HLS := hcut
                clear hcut
                have hna := HLS.out.own.nodAtN HLS.out.len hq1
                rw [HLS.out.aty] at hna
                obtain ⟨c0, c1, c2, c3, c4, c5, c6, c7, c8, c9, c10, c11⟩ := hna
                have hnb := HLS.out.box.nodAtN rfl (k := 0) (by omega)
                obtain ⟨d0, d1, d2, d3, d4, d5, d6, d7, d8, d9, d10, d11⟩ := hnb
                have hfz := fun j => HLS.out.box.1.frozenAt j
                simp only [Nat.zero_mul, Nat.zero_add] at d0 d1 d2 d3 d4 d5 d6 d7 d8 d9 d10 d11
                have f0 := hfz 0
                have f1 := hfz 1
                have f2 := hfz 2
                have f3 := hfz 3
                have f4 := hfz 4
                have f5 := hfz 5
                have f6 := hfz 6
                have f7 := hfz 7
                have f8 := hfz 8
                have f9 := hfz 9
                have f10 := hfz 10
                have f11 := hfz 11
                clear hfz
                have HLC := Lib.hid (HLS.out.copied hwm)
                go_upto_region 13 with fail
                go_cut [] from 48 to 51 (fun wx => Hid (LinkSt 36 w wx l k q mb b1 g cap' m x y y c))
                case first =>
                  go_wp2
                  go_meet
                  exact HLC
                case rest =>
                  clear HLS HLC c0 c1 c2 c3 c4 c5 c6 c7 c8 c9 c10 c11 d0 d1 d2 d3 d4 d5 d6 d7 d8 d9 d10 d11 f0 f1 f2 f3 f4 f5 f6 f7 f8 f9 f10 f11
                  have HLS := hcut
                  clear hcut
                  obtain ⟨e0, e1, e2, e3, e4, e5, e6, e7, e8, e9, e10⟩ := HLS.out.ent.zero
                  have hnb := HLS.out.box.nodAtN rfl (k := 0) (by omega)
                  obtain ⟨d0, d1, d2, d3, d4, d5, d6, d7, d8, d9, d10, d11⟩ := hnb
                  simp only [Nat.zero_mul, Nat.zero_add] at d0
                  have f0 := HLS.out.box.1.frozenAt 0
                  have HGA := Lib.hid (HLS.out.named hwm HEX.out HX.out)
                  clear d1 d2 d3 d4 d5 d6 d7 d8 d9 d10 d11
                  go_wp2
                  go_meet
                  exact ⟨_, c, HGA⟩
          | false =>
            have hk4 : ¬ x.kind = 4 := by have := HKB.out; rwa [beq_eq_false_iff_ne] at this
            have hall := HFI.out hk4
            clear hk4
            go_wp2
            go_meet
            exact ⟨x.nod 0, growL l k, Lib.hid ⟨hall, growL_len l k, HTW.out.own, HTW.out.box, nodIn_ok HXN.out HTW.out.below HTW.out.own (by omega), HTW.out.map, HTW.out.below, by rw [HEX.out]; exact HTW.out.ent, HTW.out.apart⟩⟩
        case rest =>
          obtain ⟨z, c, HG⟩ := hcut
          clear e0 e1 e2 e3 e4 e5 e6 e7 e8 e9 e10 HTW HLI HFI HLF HLE
          obtain ⟨w6, hrun, hm6, hg6⟩ := HG.out.map.put keyOn_str (t := 86) (k := 9) (e := 3) (P := Tryd.prog) Tryd.underlying86 Tryd.underlying9 x.path (.int .i64 k)
          have he := HG.out.ent
          rw [HEX.out] at he
          obtain ⟨e0, e1, e2, e3, e4, e5, e6, e7, e8, e9, e10⟩ := he.zero
          have HOK := Lib.hid (show ∀ n, n ∈ c ++ [z] → n.Ok maxLen w by rw [← HG.out.all]; exact HKC.out)
          have HB6 := Lib.hid (HG.out.below.grown hg6 HG.out.below.size (fun j hj => by cases hj; exact hwm))
          have hvm : u5.ownBlock ≠ some mb := fun e => by have := (World.ownsRow.lt HG.out.own.1 mb e).1; omega
          have HVM := Lib.hid hvm
          have HO6 := Lib.hid (own_kept HG.out.own hg6 (.inr hvm) (fun n hn => HOK.out n (List.mem_append_left _ hn)) HB6.out)
          have HN6 := Lib.hid (own_kept HG.out.box hg6 (.inr (by simp [Value.ownBlock]; omega)) (fun n hn => HOK.out n (List.mem_append_right _ hn)) HB6.out)
          have HZO := Lib.hid (HOK.out z (by simp))
          have HM6 := Lib.hid hm6
          have HBA := Lib.hid ((Below.refl w6.heap.size w6).alloc (Nat.le_refl _) (nodBox 36 z))
          have HO7 := Lib.hid (HO6.out.below HBA.out)
          have HB7 := Lib.hid (HB6.out.trans (HBA.out.mono HB6.out.size))
          have HI7 := Lib.hid (nodIn_ok HZO.out HB7.out HO7.out (Nat.le_succ_of_le hwm))
          have HM7 := Lib.hid (HM6.out.below HBA.out HM6.out.lt)
          have HMS7 := Lib.hid (show mb + 1 ≤ (w6.alloc (nodBox 36 z)).heap.size from HM7.out.lt)
          have hcl := HG.out.len
          have HAL := Lib.hid HG.out.all
          have hnb := HN6.out.nodAtN rfl (k := 0) (by omega)
          obtain ⟨d0, d1, d2, d3, d4, d5, d6, d7, d8, d9, d10, d11⟩ := hnb
          simp only [Nat.zero_mul, Nat.zero_add] at d0 d1 d2 d3 d4 d5 d6 d7 d8 d9 d10 d11
          rw [show nk [z] 0 = z from rfl] at d0 d1 d2 d3 d4 d5 d6 d7 d8 d9 d10 d11
          clear hm6 hg6 hvm he HG
          go_wp2_with (at_builtin; refine wpList_app _ rfl (.tmp 59) (.tmp 61) 22 22 rfl _ _ rfl rfl (fun ty => app_src _ 22 22 ty (mb + 1) 36 i0 _ 12 144 Tryd.underlying22 HI.out.1 HI.out.2.1 HI.out.2.2.1 HI.out.2.2.2 rfl (by decide) _ _ c.length 1 _ _ HO7.out.1 (src_nod_at w6 rfl _ _ _ Tryd.underlying22 z) (by unfold maxLen; omega) (by omega) HMS7.out) ?_; intro v2 w8 ho2 hg2 hv2; have HZZ := Lib.hid (And.intro ho2 (And.intro hg2 hv2)); clear ho2 hg2 hv2)
          have HO8 := Lib.hid (HO7.out.app (m := [z]) (fun y hy => by rw [List.mem_singleton.1 hy]; exact HI7.out) HZZ.out.1 HZZ.out.2.1 HZZ.out.2.2.2)
          have HB8 := Lib.hid (HB7.out.grown HZZ.out.2.1 HB7.out.size (fun j hj => by have := (World.ownsRow.lt HO7.out.1 j hj).1; omega))
          have HM8 := Lib.hid (HM7.out.grown HZZ.out.2.1 (fun e => HVM.out e.symm))
          have HP8 := Lib.hid (HPP.out w8)
          go_wp2
          go_roundw
          case rel => exact ⟨k + 1, _, by omega, by go_num, Lib.hid (by rw [HAL.out]; exact HO8.out), HB8, HM8, HP8⟩
          case measure => simp [intOf]; omega
      · obtain rfl : k = l.length := by omega
        go_wp2_with fail
        refine (CopyL_any _ (treeGrown l) _ (HO.out.slice (by rw [growL_len]; unfold maxLen; omega)) (by unfold treeGrown; rw [growL_len]; omega) HD.out).mono ?_
        rintro e w5 ⟨v5, c, rfl, ho, hcb, hb⟩
        have HO5 := Lib.hid (ho.mono HB.out.size)
        have HB5 := Lib.hid (HB.out.trans (hb.mono HB.out.size))
        have HC5 := Lib.hid hcb
        clear ho hb hcb
        go_wp2
        go_ret2
        rw [HF.out]
        exact ⟨_, c, rfl, HO5.out, HC5.out, HB5.out⟩
  · have HF := Lib.hid (grown_bad hE)
    have HE := Lib.hid hE
    clear hE
    go_enter Tryd.func29, Tryd.ntmps29
    go_wp2_with fail
    refine (EntsCheck_any _ l _ HM.out H.out).mono ?_
    rintro e w1 ⟨rfl, hb⟩
    have HB1 := Lib.hid hb
    have hne := HE.out
    clear hb
    generalize entsFault l = q at *
    go_wp2
    go_ret2
    rw [HF.out]
    exact ⟨_, [], rfl, OwnNods.nil _ _ _, rfl, HB1.out⟩
set_option maxRecDepth 100000 in
set_option maxHeartbeats 2000000 in
theorem GrowL_nil (a : Option Addr) (cap : Nat) (w : World) (hM : MaxOk w) (h : SliceC maxLen 11 (EntC maxLen) w [.slice a 0 cap] []) :
    Calls Tryd.prog 29 #[.slice a 0 cap] w (RetTE 36 w (grown [])) := by
  have HF := Lib.hid (show grown [] = ([], 0) from grown_ok entsFault_nil)
  have H := Lib.hid h
  have HM := Lib.hid hM
  have hmm := @run_makeMap Tryd.prog
  clear h hM
  go_enter Tryd.func29, Tryd.ntmps29
  go_wp2_with fail
  refine (EntsCheck_any _ [] _ HM.out H.out).mono ?_
  rintro e w1 ⟨rfl, hb⟩
  rw [entsFault_nil]
  have HB1 := Lib.hid hb
  have HMB := Lib.hid (hb.alloc hb.size (.map #[] 0))
  clear hb
  go_wp2
  clear hmm
  go_loop [5, 7, 8, 9, 10, 19] (fun v _ _ _ _ i => v = .slice none 0 0 ∧ i = .int .i64 0) (fun _ _ _ _ _ _ => 0)
  case atStart => exact ⟨rfl, rfl⟩
  case round =>
    obtain ⟨rfl, rfl⟩ := hrel
    go_wp2_with fail
    refine (CopyL_nil none 0 _).mono ?_
    rintro e w5 ⟨v5, c, rfl, ho, hcb, hb⟩
    have HO5 := Lib.hid (ho.mono HMB.out.size)
    have HB5 := Lib.hid (HMB.out.trans (hb.mono HMB.out.size))
    have HC5 := Lib.hid hcb
    clear ho hb hcb
    go_wp2
    go_ret2
    rw [HF.out]
    exact ⟨_, c, rfl, HO5.out, HC5.out, HB5.out⟩
theorem GrowL_any (v : Value) (l : List Ent) (w : World) (hM : MaxOk w) (h : SliceC maxLen 11 (EntC maxLen) w [v] l) :
    Calls Tryd.prog 29 #[v] w (RetTE 36 w (grown l)) := by
  rcases ents_cases h with ⟨a, cap, rfl, rfl, _⟩ | ⟨b, off, cap, rfl, h1, h2, h3, _, h4, h5⟩
  · exact GrowL_nil a cap w hM h
  · exact GrowL_at b off cap l w hM h1 h2 h3 h4 h5 h
end Go.Proofs.YtiiojjhfncefgaaDoor
