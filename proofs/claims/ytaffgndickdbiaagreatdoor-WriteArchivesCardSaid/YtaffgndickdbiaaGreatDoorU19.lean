/-
  Texts: EntsCheck, Ints, ArcSpec, Trim, PadCut, PadCutRef.
-/
import Derived.Test.YtaffgndickdbiaaGreatDoorU18
import Derived.Test.YtaffgndickdbiaaGreatDoorU16
import Derived.Deep.RegionLaw
set_option linter.unusedVariables false
set_option linter.unusedSimpArgs false
set_option linter.unusedSectionVars false
namespace Go.Creel
open Go.RowKit
def MetIs (l : List Ent) (k : Nat) (m : List (ByteArray × Value)) : Prop := ∀ s, assoc s m = if entFind (l.take k) s < k then some (metGet l k s).val else none
theorem MetIs.start (l : List Ent) : MetIs l 0 [] := fun s => rfl
theorem MetIs.put {l : List Ent} {k : Nat} {m : List (ByteArray × Value)} (h : MetIs l k m) (hk : k < l.length) (hz : ∀ j, j < k + 1 → stepE l j = 0) : MetIs l (k + 1) (assocPut (ek l k).path (ek l k).val m) := by
  have hne := chain_ne (p := fun j => (ek l j).path) (k := k) (fun i h0 h1 => (stepE_zero (hz i (by omega))).2 h0)
  intro s
  rw [assoc_put]
  by_cases e : s = (ek l k).path
  · rw [if_pos e]
    have hf : entFind (l.take (k + 1)) s = k := by
      refine entFind_at (by rw [List.length_take]; omega) (fun j hj => ?_) (by rw [ek_take (by omega)]; exact e.symm)
      rw [ek_take (by omega), e]
      exact hne j hj
    rw [if_pos (by omega), metGet_yes (by omega), hf]
  · rw [if_neg e, h s]
    by_cases hf : entFind (l.take k) s < k
    · rw [if_pos hf, metGet_yes hf]
      have h1 := entFind_take hk hf
      rw [if_pos (by omega), metGet_yes (by omega), h1]
    · rw [if_neg hf]
      have hn := entFind_not (by omega) hf
      have : entFind (l.take (k + 1)) s = k + 1 := entFind_none (by omega) (fun j hj => by
        by_cases ej : j = k
        · rw [ej]; exact fun h => e h.symm
        · exact hn j (by omega))
      rw [if_neg (by omega)]
end Go.Creel
namespace Go.Proofs.YtaffgndickdbiaaGreatDoor
open Go.Creel Go.RowKit
theorem entR_call (x : Ent) (w : World) (hM : MaxOk w) (h : x.Ok maxLen w) : Calls Tryz.prog 36 #[x.val] w fun e w' => e = .returned (.int .i64 (entFault x)) ∧ Below w.heap.size w w' :=
  PlanRight_any x w hM h.path h.target h.mt (by obtain ⟨_, _, _, _, _, h, _⟩ := h.data; exact h) h.kind (Nat.le_refl _)
theorem met_look {l : List Ent} {k mb : Nat} {m : List (ByteArray × Value)} {w : World} (hm : MapIs (fun s : ByteArray => Value.string s) w mb m) (h : MetIs l k m) (s : ByteArray) :
    (Instr.lookup 140 (.map (some mb)) (.string s) false).run Tryz.prog w = .ok (.agg #[.string (metGet l k s).path, .int .i64 (metGet l k s).kind, .string (metGet l k s).target, .int .i64 (metGet l k s).mt.mode, .int .i64 (metGet l k s).mt.uid, .int .i64 (metGet l k s).mt.gid, .string (metGet l k s).mt.user, .string (metGet l k s).mt.group, .int .i64 (metGet l k s).mt.second, .int .i64 (metGet l k s).mt.nano, .slice (metGet l k s).da (metGet l k s).data.length (metGet l k s).dcap]) w := by
  by_cases hf : entFind (l.take k) s < k
  · exact hm.look_some keyOn_str (t := 140) (k := 9) (e := 26) Tryz.underlying140 Tryz.underlying9 (by rw [h s, if_pos hf]) false
  · rw [metGet_no hf]
    exact hm.look_none keyOn_str (t := 140) (k := 9) (e := 26) Tryz.underlying140 Tryz.underlying9 (by rw [h s, if_neg hf]) (Tryz.zeroValue26 _) false
set_option maxRecDepth 100000 in
set_option maxHeartbeats 4000000 in
theorem EntsCheck_at (b off cap : Nat) (l : List Ent) (w : World) (hM : MaxOk w) (hpos : 0 < l.length) (hle : l.length ≤ cap) (hm : cap ≤ maxLen) (hc : EntsAt w b off l) (ho : ∀ i, i < l.length → (ek l i).Ok maxLen w) :
    Calls Tryz.prog 46 #[.slice (some ⟨b, off, none⟩) l.length cap] w fun e w' => e = .returned (.int .i64 (entsFault l)) ∧ Below w.heap.size w w' := by
  have hm' := hm
  unfold maxLen at hm
  have HC := Lib.hid hc
  have HO := Lib.hid ho
  have HM := Lib.hid hM
  have HCAP := Lib.hid hm'
  clear hc ho hm' hM
  by_cases hmany : 40 < l.length
  · have HF := Lib.hid (entsFault_many hmany)
    go_enter Tryz.func46, Tryz.ntmps46
    go_wp2
    go_ret
    exact ⟨ret_i HF.out, Below.refl _ _⟩
  have hfew : l.length ≤ 40 := by omega
  clear hmany
  have HMS := Lib.hid (MapIs.made (fun s : ByteArray => Value.string s) w)
  have HMB := Lib.hid ((Below.refl w.heap.size w).alloc (Nat.le_refl _) (.map #[] 0))
  have hmm := @run_makeMap Tryz.prog
  go_enter Tryz.func46, Tryz.ntmps46
  go_wp2
  clear hmm
  generalize hmb : w.heap.size = mb at HMS
  have HMBE := Lib.hid hmb
  go_loopw [4, 5, 6, 7, 8, 15] (fun _ _ _ _ _ i wr => ∃ (k : Nat) (m : List (ByteArray × Value)), k ≤ l.length ∧ i = .int .i64 k ∧ Hid (∀ j, j < k → stepE l j = 0) ∧ Hid (Below w.heap.size w wr) ∧ Hid (MapIs (fun s : ByteArray => Value.string s) wr mb m) ∧ Hid (MetIs l k m)) (fun _ _ _ _ _ i _ => l.length - (intOf i).toNat)
  case atStart => exact ⟨0, [], by omega, rfl, Lib.hid fun j hj => absurd hj (by omega), HMB, HMS, Lib.hid (MetIs.start l)⟩
  case round =>
    obtain ⟨k, m, hk, rfl, HZ, HB, HMI, HFI⟩ := hrel
    by_cases hlt : k < l.length
    · obtain ⟨h0, h1, h2, h3, h4, h5, h6, h7, h8, h9, h10⟩ := (HC.out.below HB.out) k hlt
      have HX := Lib.hid ((HO.out k hlt).below HB.out)
      have HAT := Lib.hid (fun e => entsFault_at (e := e) hfew hlt HZ.out)
      have HMLT := Lib.hid HMI.out.lt
      by_cases hA : entFault (ek l k) = 0
      · have HA := Lib.hid hA
        clear hA
        go_wp2_with fail
        have HBX := Lib.hid (entAt_box wr (ek l k) 26)
        refine (entR_call _ _ (HM.out.below (HB.out.alloc HB.out.size _)) (HX.out.below ((Below.refl _ _).alloc (Nat.le_refl _) _))).mono ?_
        rintro e w1 ⟨rfl, hb⟩
        have HB1 := Lib.hid ((HB.out.alloc HB.out.size _).trans (hb.mono (by simp; exact Nat.le_succ_of_le HB.out.size)))
        have HBX1 := Lib.hid (HBX.out.below hb)
        have HM1 := Lib.hid (HMI.out.below (((Below.refl _ _).alloc (Nat.le_refl _) _).trans (hb.mono (by simp))) HMLT.out)
        have HMLT1 := Lib.hid HM1.out.lt
        rw [HA.out]
        clear hb h0 h1 h2 h3 h4 h5 h6 h7 h8 h9 h10
        generalize wr.heap.size = bx at *
        obtain ⟨g0, g1, g2, g3, g4, g5, g6, g7, g8, g9, g10⟩ := HBX1.out.zero
        have HPZ := Lib.hid (fun (j : Nat) (hj : j ≤ k) => show (ek l j).path.size ≤ 1048576 from Nat.le_trans (entFault_path (by
          rcases Nat.lt_or_ge j k with h | h
          · exact (stepE_zero (HZ.out j h)).1
          · rw [show j = k by omega]; exact HA.out)) (by decide))
        go_upto_region 10 with fail
        go_cut [15, 38] from 15 to 74 (fun c u wc => c = .int .i64 k ∧ u = .bool (ordBadE l k) ∧ Hid (Below w1.heap.size w1 wc))
        case first =>
          by_cases hk0 : k = 0
          · subst hk0
            go_wp2
            go_quiet (fail)
            go_wp2_with fail
            go_meet
            case rel => exact ⟨rfl, congrArg Value.bool (ordE_zero l).symm, Lib.hid (below_draws _ _ _)⟩
          · obtain ⟨q, rfl⟩ : ∃ q, k = q + 1 := ⟨k - 1, by omega⟩
            obtain ⟨p0, _⟩ := (HC.out.below HB1.out) q (by omega)
            have hwq : IntKind.i64.wrap (q : Int) = (q : Int) := by rw [IntKind.wrap_i64]; omega
            have hql : (q : Int) < (l.length : Int) := by omega
            go_wp2
            go_still_tail 11, (by kernel_rfl)
            go_wp2_with fail
            refine (Compare_any _ _ _ ((HM.out.below HB1.out).below (Below.refl _ _).drew) (HPZ.out q (by omega)) (HPZ.out (q + 1) (by omega))).mono ?_
            rintro e wc ⟨rfl, hb⟩
            have HBC := Lib.hid ((Below.refl w1.heap.size w1).drew.trans hb)
            clear hb
            go_wp2_with fail
            go_meet
            case rel => exact ⟨rfl, congrArg Value.bool (ordE_dec _ _), HBC⟩
        case rest =>
          obtain ⟨rfl, rfl, HBC⟩ := hcut
          have HB2 := Lib.hid (HB1.out.trans (HBC.out.mono HB1.out.size))
          have HBX2 := Lib.hid (HBX1.out.below HBC.out)
          have HM2 := Lib.hid (HM1.out.below HBC.out HMLT1.out)
          have HMLT2 := Lib.hid HM2.out.lt
          clear g0 g1 g2 g3 g4 g5 g6 g7 g8 g9 g10
          obtain ⟨g0, g1, g2, g3, g4, g5, g6, g7, g8, g9, g10⟩ := HBX2.out.zero
          by_cases hO : OrdOkE l k
          · have HOK := Lib.hid hO
            rw [ordBadE_f hO]
            clear hO
            have HUPC := Lib.hid (fun w : World => Up_any (ek l k).path w (Nat.le_trans (HPZ.out k (Nat.le_refl _)) (by decide)))
            have hlook := met_look HM2.out HFI.out (pathUp (ek l k).path)
            have HUP := Lib.hid (show UpOkE l k ↔ ((pathUp (ek l k).path).size ≠ 0 → (metGet l k (pathUp (ek l k).path)).kind = 2) from Iff.rfl)
            generalize hfu : metGet l k (pathUp (ek l k).path) = fu at hlook HUP
            clear hfu
            generalize pathUp (ek l k).path = up at *
            have hfld : ∀ w : World, (Instr.field 26 (.agg #[.string fu.path, .int .i64 fu.kind, .string fu.target, .int .i64 fu.mt.mode, .int .i64 fu.mt.uid, .int .i64 fu.mt.gid, .string fu.mt.user, .string fu.mt.group, .int .i64 fu.mt.second, .int .i64 fu.mt.nano, .slice fu.da fu.data.length fu.dcap]) 1).run Tryz.prog w = .ok (.int .i64 fu.kind) w := fun _ => rfl
            go_upto_region 13 with (go_at_call 114; refine (HUPC.out _).mono ?_; rintro e w' ⟨rfl, rfl⟩)
            go_cut [15, 50] from 15 to 74 (fun c u wc2 => c = .int .i64 k ∧ u = .bool (!upOkE l k) ∧ wc2 = wc)
            case first =>
              by_cases h0 : up.size = 0
              · have HU := Lib.hid (upOkE_t (HUP.out.2 fun e => absurd h0 e))
                have he := empty_t h0
                clear h0
                go_wp2_with fail
                go_meet
                case rel => exact ⟨rfl, by rw [HU.out]; rfl, rfl⟩
              · have he := empty_f h0
                by_cases hkd : fu.kind = 2
                · have HU := Lib.hid (upOkE_t (HUP.out.2 fun e => hkd))
                  have hd2 : (fu.kind != 2) = false := by rw [hkd]; rfl
                  clear hkd h0
                  go_wp2_with fail
                  go_meet
                  case rel => exact ⟨rfl, by rw [HU.out]; rfl, rfl⟩
                · have HU := Lib.hid (upOkE_f (fun e => hkd (HUP.out.1 e h0)))
                  have hd2 : (fu.kind != 2) = true := by rw [bne_iff_ne]; exact hkd
                  clear hkd h0
                  go_wp2_with fail
                  go_meet
                  case rel => exact ⟨rfl, by rw [HU.out]; rfl, rfl⟩
            case rest =>
              obtain ⟨rfl, rfl, hwz⟩ := hcut
              subst hwz
              clear HUP hlook
              by_cases hU : UpOkE l k
              · rw [upOkE_t hU]
                have HUO := Lib.hid hU
                clear hU
                have hlook := met_look HM2.out HFI.out (ek l k).target
                have HLK := Lib.hid (show LinkOkE l k ↔ ((ek l k).kind = 4 → (metGet l k (ek l k).target).kind = 1 ∧ (metGet l k (ek l k).target).mt = (ek l k).mt) from Iff.rfl)
                generalize metGet l k (ek l k).target = fe at hlook HLK
                have hbz := HBX2.out.lt
                have HB5 := Lib.hid (HB2.out.alloc HB2.out.size (.cells #[.string fe.path, .int .i64 fe.kind, .string fe.target, .int .i64 fe.mt.mode, .int .i64 fe.mt.uid, .int .i64 fe.mt.gid, .string fe.mt.user, .string fe.mt.group, .int .i64 fe.mt.second, .int .i64 fe.mt.nano, .slice fe.da fe.data.length fe.dcap] 26))
                have HBX5 := Lib.hid (HBX2.out.below ((Below.refl _ _).alloc (Nat.le_refl _) (.cells #[.string fe.path, .int .i64 fe.kind, .string fe.target, .int .i64 fe.mt.mode, .int .i64 fe.mt.uid, .int .i64 fe.mt.gid, .string fe.mt.user, .string fe.mt.group, .int .i64 fe.mt.second, .int .i64 fe.mt.nano, .slice fe.da fe.data.length fe.dcap] 26)))
                have HM5 := Lib.hid (HM2.out.below ((Below.refl _ _).alloc (Nat.le_refl _) (.cells #[.string fe.path, .int .i64 fe.kind, .string fe.target, .int .i64 fe.mt.mode, .int .i64 fe.mt.uid, .int .i64 fe.mt.gid, .string fe.mt.user, .string fe.mt.group, .int .i64 fe.mt.second, .int .i64 fe.mt.nano, .slice fe.da fe.data.length fe.dcap] 26)) HMLT2.out)
                have HFX := Lib.hid (entAt_box wc fe 26)
                go_upto_region 16 with fail
                go_cut [15, 69] from 15 to 74 (fun c u wd => c = .int .i64 k ∧ u = .bool (!linkOkE l k) ∧ wd = wc.alloc (.cells #[.string fe.path, .int .i64 fe.kind, .string fe.target, .int .i64 fe.mt.mode, .int .i64 fe.mt.uid, .int .i64 fe.mt.gid, .string fe.mt.user, .string fe.mt.group, .int .i64 fe.mt.second, .int .i64 fe.mt.nano, .slice fe.da fe.data.length fe.dcap] 26))
                case first =>
                  by_cases hk4 : (ek l k).kind = 4
                  · have hd4 : ((ek l k).kind == 4) = true := by rw [hk4]; rfl
                    by_cases hkd : fe.kind = 1
                    · have hd2 : (fe.kind != 1) = false := by rw [hkd]; rfl
                      by_cases hmt : fe.mt = (ek l k).mt
                      · have HU := Lib.hid (linkOkE_t (HLK.out.2 fun _ => ⟨hkd, hmt⟩))
                        have e0 := congrArg Meta.mode hmt
                        have e1 := congrArg Meta.uid hmt
                        have e2 := congrArg Meta.gid hmt
                        have e3 : fe.mt.user.toList = (ek l k).mt.user.toList := by rw [hmt]
                        have e4 : fe.mt.group.toList = (ek l k).mt.group.toList := by rw [hmt]
                        have e5 := congrArg Meta.second hmt
                        have e6 := congrArg Meta.nano hmt
                        clear hmt hk4 hkd
                        go_wp2_with fail
                        go_meet
                        case rel => exact ⟨rfl, by rw [HU.out]; rfl, by rw [e0, e1, e2, e5, e6]⟩
                      · have HU := Lib.hid (linkOkE_f (fun e => hmt (HLK.out.1 e hk4).2))
                        clear hk4 hkd
                        rcases meta_casesE hmt with e0 | ⟨e0, e1⟩ | ⟨e0, e1, e2⟩ | ⟨e0, e1, e2, e3⟩ | ⟨e0, e1, e2, e3, e4⟩ | ⟨e0, e1, e2, e3, e4, e5⟩ | ⟨e0, e1, e2, e3, e4, e5, e6⟩
                        all_goals clear hmt
                        all_goals go_wp2_with fail
                        all_goals go_meet
                        all_goals exact ⟨rfl, by rw [HU.out]; rfl, by first | rfl | rw [e0, e1, e2, e5] | rw [e0, e1, e2] | rw [e0, e1] | rw [e0]⟩
                    · have HU := Lib.hid (linkOkE_f (fun e => hkd (HLK.out.1 e hk4).1))
                      have hd2 : (fe.kind != 1) = true := by rw [bne_iff_ne]; exact hkd
                      clear hk4 hkd
                      go_wp2_with fail
                      go_meet
                      case rel => exact ⟨rfl, by rw [HU.out]; rfl, rfl⟩
                  · have HU := Lib.hid (linkOkE_t (HLK.out.2 fun e => absurd e hk4))
                    have hd4 : ((ek l k).kind == 4) = false := by rw [beq_eq_false_iff_ne]; exact hk4
                    clear hk4
                    go_wp2_with fail
                    go_meet
                    case rel => exact ⟨rfl, by rw [HU.out]; rfl, rfl⟩
                case rest =>
                  obtain ⟨rfl, rfl, hwx⟩ := hcut
                  subst hwx
                  by_cases hL : LinkOkE l k
                  · rw [linkOkE_t hL]
                    have HS := Lib.hid (stepE_ok HA.out HOK.out HUO.out hL)
                    have HFN := Lib.hid (HFI.out.put hlt (zsE_next HZ.out HS.out))
                    have HWB := Lib.hid (show mb ≥ w.heap.size by rw [HMBE.out]; exact Nat.le_refl _)
                    obtain ⟨wp, hput, hmp, hgr⟩ := MapIs.put HM5.out keyOn_str (t := 140) (k := 9) (e := 26) Tryz.underlying140 Tryz.underlying9 (ek l k).path (ek l k).val
                    have HMP := Lib.hid hmp
                    have HB6 := Lib.hid (HB5.out.grown hgr HB5.out.size (fun q hq => by cases hq; exact HWB.out))
                    clear hL hmp hgr hlook
                    go_wp2
                    go_roundw
                    case rel => exact ⟨k + 1, _, by omega, by go_num, Lib.hid (zsE_next HZ.out HS.out), HB6, HMP, HFN⟩
                    case measure => simp [intOf]; omega
                  · rw [linkOkE_f hL]
                    have HF := Lib.hid (HAT.out 11 (stepE_link HA.out HOK.out HUO.out hL) (by decide))
                    clear hL
                    go_wp2
                    go_ret
                    exact ⟨ret_i HF.out, HB5.out⟩
              · have HF := Lib.hid (HAT.out 10 (stepE_up HA.out HOK.out hU) (by decide))
                rw [upOkE_f hU]
                clear hU
                go_wp2
                go_ret
                exact ⟨ret_i HF.out, HB2.out⟩
          · have HF := Lib.hid (HAT.out 6 (stepE_ord HA.out hO) (by decide))
            rw [ordBadE_t hO]
            clear hO
            go_wp2
            go_ret
            exact ⟨ret_i HF.out, HB2.out⟩
      · have HF := Lib.hid (HAT.out _ (stepE_ent hA) hA)
        go_wp2_with fail
        refine (entR_call _ _ (HM.out.below (HB.out.alloc HB.out.size _)) (HX.out.below ((Below.refl _ _).alloc (Nat.le_refl _) _))).mono ?_
        rintro e w1 ⟨rfl, hb⟩
        have HB1 := Lib.hid ((HB.out.alloc HB.out.size _).trans (hb.mono (by simp; exact Nat.le_succ_of_le HB.out.size)))
        clear hb h0 h1 h2 h3 h4 h5 h6 h7 h8 h9 h10
        generalize entFault (ek l k) = q at *
        go_wp2
        go_ret
        exact ⟨ret_i HF.out, HB1.out⟩
    · obtain rfl : k = l.length := by omega
      have HF := Lib.hid (entsFault_ok hfew HZ.out)
      go_wp2
      go_ret
      exact ⟨ret_i HF.out, HB.out⟩
set_option maxRecDepth 100000 in
theorem EntsCheck_nil (a : Option Addr) (cap : Nat) (w : World) :
    Calls Tryz.prog 46 #[.slice a 0 cap] w fun e w' => e = .returned (.int .i64 0) ∧ Below w.heap.size w w' := by
  have HMB := Lib.hid ((Below.refl w.heap.size w).alloc (Nat.le_refl _) (.map #[] 0))
  have hmm := @run_makeMap Tryz.prog
  go_enter Tryz.func46, Tryz.ntmps46
  go_wp2
  clear hmm
  go_loop [4, 5, 6, 7, 8, 15] (fun _ _ _ _ _ i => i = .int .i64 0) (fun _ _ _ _ _ _ => 0)
  case atStart => rfl
  case round =>
    obtain rfl := hrel
    go_wp2
    go_ret
    exact ⟨rfl, HMB.out⟩
theorem entsFault_nil : entsFault [] = 0 := entsFault_ok (by simp) (fun j hj => absurd hj (by simp))
theorem EntsCheck_any (v : Value) (l : List Ent) (w : World) (hM : MaxOk w) (h : SliceC maxLen 11 (EntC maxLen) w [v] l) :
    Calls Tryz.prog 46 #[v] w fun e w' => e = .returned (.int .i64 (entsFault l)) ∧ Below w.heap.size w w' := by
  rcases ents_cases h with ⟨a, cap, rfl, rfl, _⟩ | ⟨b, off, cap, rfl, h1, h2, h3, _, h4, h5⟩
  · rw [entsFault_nil]; exact EntsCheck_nil a cap w
  · exact EntsCheck_at b off cap l w hM h1 h2 h3 h4 h5
theorem EntsFault_any (v : Value) (l : List Ent) (w : World) (h : SliceC maxLen 11 (EntC maxLen) w [v] l) :
    Calls Tryz.prog 48 #[v] w fun e w' => e = .returned (.int .i64 (entsFault l)) ∧ Below w.heap.size w w' := by
  rcases ents_cases h with ⟨a, cap, rfl, rfl, _⟩ | ⟨b, off, cap, rfl, h1, h2, h3, _, h4, h5⟩
  · rw [entsFault_nil]
    exact (EntsFault_nil a cap w).mono fun e w' ⟨h1, h2⟩ => ⟨h1, by rw [← h2]; exact Below.refl _ _⟩
  · exact EntsFault_at b off cap l w h1 h2 h3 h4 h5
end Go.Proofs.YtaffgndickdbiaaGreatDoor
namespace Go.Creel
open Go.RowKit
def OwnIs (t : TypeId) (w : World) (B : Nat) (v : Value) (l : List Int) : Prop := w.ownsRow B t 1 v l.length (l.map (Value.int .i64))
def pieceI (l : List Int) (k : Nat) : Int := l.getD k 0
theorem pieceI_eq {l : List Int} {k : Nat} (h : k < l.length) : pieceI l k = l[k] := by simp [pieceI, List.getD_eq_getElem?_getD, List.getElem?_eq_getElem h]
theorem OwnIs.cell {t : TypeId} {w : World} {B g cap : Nat} {l : List Int} (h : OwnIs t w B (.slice (some ⟨g, 0, none⟩) l.length cap) l) {j : Nat} (hj : j < l.length) : w.cell? ⟨g, j, none⟩ = some (.int .i64 (pieceI l j)) := by
  rw [World.ownsRow.cellAt h j (by omega), pieceI_eq hj]
  simp [List.getElem?_eq_getElem hj]
theorem OwnIs.form {t : TypeId} {w : World} {B : Nat} {v : Value} {l : List Int} (h : OwnIs t w B v l) : (v = .slice none 0 0 ∧ l = []) ∨ ∃ g cap, v = .slice (some ⟨g, 0, none⟩) l.length cap ∧ B ≤ g ∧ g < w.heap.size ∧ l.length ≤ cap ∧ cap ≤ maxLen := by
  rcases h.2 with ⟨rfl, h0⟩ | ⟨g, cap, cur, rfl, hbg, hg, hnc, hcm, hcs, htake⟩
  · exact .inl ⟨rfl, List.eq_nil_of_length_eq_zero h0⟩
  · refine .inr ⟨g, cap, rfl, hbg, ?_, hnc, hcm⟩
    rcases Nat.lt_or_ge g w.heap.size with h' | h'
    · exact h'
    · rw [Array.getElem?_eq_none h'] at hg; cases hg
theorem OwnIs.below {t : TypeId} {w w' : World} {B : Nat} {v : Value} {l : List Int} (h : OwnIs t w B v l) (hb : Below w.heap.size w w') : OwnIs t w' B v l := by
  refine ⟨h.1, ?_⟩
  rcases h.2 with h0 | ⟨g, cap, cur, hv, hbg, hg, r⟩
  · exact .inl h0
  · refine .inr ⟨g, cap, cur, hv, hbg, ?_, r⟩
    rw [hb.block g]
    · exact hg
    · rcases Nat.lt_or_ge g w.heap.size with h' | h'
      · exact h'
      · rw [Array.getElem?_eq_none h'] at hg; cases hg
theorem OwnIs.app {t : TypeId} {w' : World} {B : Nat} {v' : Value} {l m : List Int} (h : w'.ownsRow B t 1 v' (l.length + m.length) (l.map (Value.int .i64) ++ m.map (Value.int .i64))) : OwnIs t w' B v' (l ++ m) := by
  unfold OwnIs
  rw [List.length_append, List.map_append]
  exact h
theorem OwnIs.mono {t : TypeId} {w : World} {B B' : Nat} {v : Value} {l : List Int} (h : OwnIs t w B v l) (hb : B' ≤ B) : OwnIs t w B' v l := by
  rcases h.2 with ⟨rfl, h0⟩ | ⟨g, cap, cur, rfl, hbg, hg, hnc, hcm, hcs, htake⟩
  · exact ⟨h.1, .inl ⟨rfl, h0⟩⟩
  · exact ⟨h.1, .inr ⟨g, cap, cur, rfl, Nat.le_trans hb hbg, hg, hnc, hcm, hcs, htake⟩⟩
def RetIE (t : TypeId) (w : World) (p : List Int × Int) (e : Ending) (w' : World) : Prop := ∃ v, e = .returned (.tuple #[v, .int .i64 p.2]) ∧ OwnIs t w' w.heap.size v p.1 ∧ Below w.heap.size w w'
end Go.Creel
namespace Go.Proofs.YtaffgndickdbiaaGreatDoor
open Go.Creel Go.RowKit
theorem info_int : (Tryz.prog.info? 3).map (fun i => (i.zero, i.size, i.bytes)) = some (some (.int .i64 0), 1, 8) := by kernel_rfl
theorem slice_formI {t : TypeId} {w : World} {B : Nat} {v : Value} {l : List Int} (h : OwnIs t w B v l) : ∃ p cap, v = .slice p l.length cap ∧ (0 < l.length → ∃ g, p = some ⟨g, 0, none⟩) := by
  rcases h.form with ⟨rfl, rfl⟩ | ⟨g, cap, rfl, hgB, hgw, hcap, hcapm⟩
  · exact ⟨none, 0, rfl, fun h => absurd h (by simp)⟩
  · exact ⟨_, _, rfl, fun _ => ⟨g, rfl⟩⟩
set_option maxRecDepth 100000 in
theorem sameInts_eq (w : World) (B C : Nat) (v u : Value) (l : List Int) (hl : l.length ≤ 8000000000) (hv : OwnIs 3 w B v l) (hu : OwnIs 3 w C u l) :
    Calls Tryz.prog 49 #[v, u] w fun e w' => e = .returned (.bool true) ∧ Below w.heap.size w w' := by
  obtain ⟨p, cap, rfl, hp⟩ := slice_formI hv
  obtain ⟨q, caq, rfl, hq⟩ := slice_formI hu
  have HV := Lib.hid hv
  have HU := Lib.hid hu
  have HP := Lib.hid hp
  have HQ := Lib.hid hq
  clear hv hu hp hq
  go_enter Tryz.func49, Tryz.ntmps49
  go_wp2
  go_loopw [5, 13] (fun _ i wr => ∃ k : Nat, k ≤ l.length ∧ i = .int .i64 k ∧ Below w.heap.size w wr) (fun _ i _ => l.length - (intOf i).toNat)
  case atStart => exact ⟨0, by omega, rfl, Below.refl _ _⟩
  case round =>
    obtain ⟨k, hk, rfl, hb⟩ := hrel
    by_cases hlt : k < l.length
    · obtain ⟨g, rfl⟩ := HP.out (by omega)
      obtain ⟨g2, rfl⟩ := HQ.out (by omega)
      have hc := (HV.out.below hb).cell hlt
      have hc2 := (HU.out.below hb).cell hlt
      have HBB := Lib.hid hb
      clear hb
      generalize pieceI l k = x at *
      have hd1 := hc
      have hd2 := hc2
      have he : (x == x) = true := by simp
      go_wp2
      go_quiet (fail)
      go_wp2
      go_roundw
      case rel => exact ⟨k + 1, by omega, by go_num, HBB.out.trans (below_draws _ _ _)⟩
      case measure => simp [intOf]; omega
    · obtain rfl : k = l.length := by omega
      have HBB := Lib.hid hb
      clear hb
      go_wp2
      go_ret
      exact ⟨rfl, HBB.out⟩
set_option maxRecDepth 100000 in
theorem lawInts_eq (w : World) (B C : Nat) (v u : Value) (l : List Int) (hl : l.length ≤ 8000000000) (hv : OwnIs 3 w B v l) (hu : OwnIs 3 w C u l) :
    Calls Tryz.prog 18 #[v, u] w fun e w' => e = .returned (.bool true) ∧ Below w.heap.size w w' := by
  have HC := Lib.hid (sameInts_eq w B C v u l hl hv hu)
  obtain ⟨p, cap, rfl, _⟩ := slice_formI hv
  obtain ⟨q, caq, rfl, _⟩ := slice_formI hu
  clear hv hu hl
  go_enter Tryz.func18, Tryz.ntmps18
  go_wp2_with fail
  refine HC.out.mono ?_
  rintro e w1 ⟨rfl, hb⟩
  have HB := Lib.hid hb
  clear hb
  go_wp2
  go_ret
  exact ⟨rfl, HB.out⟩
end Go.Proofs.YtaffgndickdbiaaGreatDoor
namespace Go.Creel
open Go.RowKit
noncomputable def arcBody (l : List Ent) : List UInt8 := l.flatMap memB
theorem arcBody_app (l m : List Ent) : arcBody (l ++ m) = arcBody l ++ arcBody m := List.flatMap_append
noncomputable def arcTo (l : List Ent) (k : Nat) : List UInt8 := arcBody (l.take k)
theorem arcTo_zero (l : List Ent) : arcTo l 0 = [] := rfl
theorem arcTo_all (l : List Ent) : arcTo l l.length = arcBody l := by unfold arcTo; rw [List.take_length]
theorem arcTo_succ {l : List Ent} {k : Nat} (h : k < l.length) : arcTo l (k + 1) = arcTo l k ++ memB (ek l k) := by
  unfold arcTo
  rw [List.take_add_one, List.getElem?_eq_getElem h, arcBody_app, ek_eq h]
  simp [arcBody]
noncomputable def arcFrom (l : List Ent) (k : Nat) : List UInt8 := arcBody (l.drop k)
theorem arcFrom_all (l : List Ent) : arcFrom l l.length = [] := by unfold arcFrom; rw [List.drop_length]; rfl
theorem arcFrom_zero (l : List Ent) : arcFrom l 0 = arcBody l := rfl
theorem arcFrom_pred {l : List Ent} {k : Nat} (h : k < l.length) : arcFrom l k = memB (ek l k) ++ arcFrom l (k + 1) := by
  unfold arcFrom
  rw [List.drop_eq_getElem_cons h, ek_eq h]
  rfl
theorem memB_le {x : Ent} (h : entFault x = 0) : (memB x).length ≤ 30000 := by
  have h1 := memPre_le (memRecs x)
  have h2 := memOwn_le (memHead x) x.data
  have h3 := (entRight h).data
  unfold memB
  simp only [List.length_append]; omega
theorem arcBody_le : ∀ {l : List Ent}, (∀ x ∈ l, entFault x = 0) → (arcBody l).length ≤ 30000 * l.length
  | [], _ => by simp [arcBody]
  | x :: l, h => by
    have h1 := memB_le (h x (by simp))
    have h2 := arcBody_le (l := l) (fun y hy => h y (by simp [hy]))
    simp only [arcBody, List.flatMap_cons, List.length_append, List.length_cons] at h2 ⊢
    omega
theorem ents_each {l : List Ent} (h : entsFault l = 0) : ∀ x ∈ l, entFault x = 0 := by
  intro x hx
  obtain ⟨k, hk, rfl⟩ := List.mem_iff_getElem.1 hx
  have := (stepE_zero ((entsFault_all h).2 k hk)).1
  rwa [ek_eq hk] at this
theorem arcTo_le {l : List Ent} (h : entsFault l = 0) (k : Nat) : (arcTo l k).length ≤ 1200000 := by
  have h1 := (entsFault_all h).1
  have h2 := arcBody_le (l := l.take k) (fun x hx => ents_each h x (List.mem_of_mem_take hx))
  have h3 : (l.take k).length ≤ l.length := List.length_take_le' _ _
  unfold arcTo; omega
theorem arcFrom_le {l : List Ent} (h : entsFault l = 0) (k : Nat) : (arcFrom l k).length ≤ 1200000 := by
  have h1 := (entsFault_all h).1
  have h2 := arcBody_le (l := l.drop k) (fun x hx => ents_each h x (List.mem_of_mem_drop hx))
  have h3 : (l.drop k).length ≤ l.length := by rw [List.length_drop]; omega
  unfold arcFrom; omega
def zeros1024 : List UInt8 := List.replicate 1024 0
theorem zeros1024_len : zeros1024.length = 1024 := List.length_replicate
noncomputable def arcOf (l : List Ent) : List UInt8 × Int := if entsFault l = 0 then (arcBody l ++ zeros1024, 0) else ([], entsFault l)
theorem arcOf_ok {l : List Ent} (h : entsFault l = 0) : arcOf l = (arcBody l ++ zeros1024, 0) := if_pos h
theorem arcOf_bad {l : List Ent} (h : ¬ entsFault l = 0) : arcOf l = ([], entsFault l) := if_neg h
noncomputable def placeTo (l : List Ent) (k : Nat) : List Int := (List.range (k + 1)).map fun j => ((arcTo l j).length : Int)
theorem placeTo_zero (l : List Ent) : placeTo l 0 = [0] := by simp [placeTo, arcTo_zero]
theorem placeTo_succ (l : List Ent) (k : Nat) : placeTo l (k + 1) = placeTo l k ++ [((arcTo l (k + 1)).length : Int)] := by
  unfold placeTo; rw [List.range_succ, List.map_append]; rfl
theorem placeTo_len (l : List Ent) (k : Nat) : (placeTo l k).length = k + 1 := by simp [placeTo]
noncomputable def placesOf (l : List Ent) : List Int × Int := if entsFault l = 0 then (placeTo l l.length, 0) else ([], entsFault l)
theorem placesOf_ok {l : List Ent} (h : entsFault l = 0) : placesOf l = (placeTo l l.length, 0) := if_pos h
theorem placesOf_bad {l : List Ent} (h : ¬ entsFault l = 0) : placesOf l = ([], entsFault l) := if_neg h
theorem metGet_take {l : List Ent} {i j : Nat} (h : j < i) (s : ByteArray) : metGet (l.take i) j s = metGet l j s := by
  unfold metGet
  have e : (l.take i).take j = l.take j := by rw [List.take_take]; congr 1; omega
  rw [e]
  split
  · rename_i hf
    exact ek_take (by omega)
  · rfl
theorem stepE_take {l : List Ent} {i j : Nat} (h : j < i) : stepE (l.take i) j = stepE l j := by
  have e1 : ek (l.take i) j = ek l j := ek_take h
  have e2 : ek (l.take i) (j - 1) = ek l (j - 1) := ek_take (by omega)
  unfold stepE OrdOkE UpOkE LinkOkE
  rw [e1, e2, metGet_take h, metGet_take h]
theorem entsFault_take {l : List Ent} (h : entsFault l = 0) (i : Nat) : entsFault (l.take i) = 0 := by
  obtain ⟨h1, h2⟩ := entsFault_all h
  have hl : (l.take i).length ≤ l.length := List.length_take_le' _ _
  refine entsFault_ok (by omega) fun j hj => ?_
  have hj2 : j < i := by rw [List.length_take] at hj; omega
  rw [stepE_take hj2]
  exact h2 j (by omega)
theorem ents_take {w : World} {a : Option Addr} {n cap i : Nat} {l : List Ent} (h : SliceC maxLen 11 (EntC maxLen) w [.slice a n cap] l) (hi : i ≤ l.length) : SliceC maxLen 11 (EntC maxLen) w [.slice a i cap] (l.take i) := by
  obtain ⟨a', cap', hv, h1, h2, h3, h4, h5⟩ := h
  simp only [List.cons.injEq, Value.slice.injEq, and_true] at hv
  obtain ⟨rfl, rfl, rfl⟩ := hv
  have hl : (l.take i).length = i := by rw [List.length_take]; omega
  refine ⟨a, cap, by rw [hl], by omega, h2, by omega, h4, fun hp => ?_⟩
  obtain ⟨b, off, e, hc⟩ := h5 (by omega)
  refine ⟨b, off, e, fun k hk => ?_⟩
  obtain ⟨c, hcl, hcc, hE⟩ := hc k (by omega)
  exact ⟨c, hcl, hcc, by rw [List.getElem_take]; exact hE⟩
open Go.RowKit
def zeroB (l : List UInt8) (n k : Nat) : Prop := ∀ i, n ≤ i → i < k → bl l i = 0
theorem sub_zero {l : List UInt8} {n k : Nat} (hk : k ≤ l.length) : (∀ x ∈ (l.drop n).take (k - n), x = 0) ↔ zeroB l n k := by
  constructor
  · intro h i h1 h2
    have hx : l[i]'(by omega) ∈ (l.drop n).take (k - n) := by
      rw [List.mem_iff_getElem]
      refine ⟨i - n, by simp; omega, ?_⟩
      simp [show n + (i - n) = i by omega]
    simp [bl, List.getD_eq_getElem?_getD, List.getElem?_eq_getElem (show i < l.length by omega), h _ hx]
  · intro h x hx
    obtain ⟨i, hi, rfl⟩ := List.getElem_of_mem hx
    have hi' := hi
    simp at hi'
    have := h (n + i) (by omega) (by omega)
    simp [bl, List.getD_eq_getElem?_getD, List.getElem?_eq_getElem (show n + i < l.length by omega)] at this
    simp
    exact UInt8.toNat_inj.1 this
def RetBB (t : TypeId) (w : World) (p : List UInt8 × List UInt8 × Int) (e : Ending) (w' : World) : Prop :=
  ∃ v u, e = .returned (.tuple #[v, u, .int .i64 p.2.2]) ∧ OwnBs t w' w.heap.size v p.1 ∧ OwnBs t w' w.heap.size u p.2.1 ∧ Below w.heap.size w w'
theorem RetBB.err {t : TypeId} {w w' : World} {p : List UInt8 × List UInt8 × Int} {n : Int} (h : p = ([], [], n)) (hb : Below w.heap.size w w') : RetBB t w p (.returned (.tuple #[.slice none 0 0, .slice none 0 0, .int .i64 n])) w' := by
  rw [h]
  exact ⟨_, _, rfl, OwnBs.nil _ _ _, OwnBs.nil _ _ _, hb⟩
end Go.Creel
namespace Go.Proofs.YtaffgndickdbiaaGreatDoor
open Go.Creel Go.RowKit
theorem _root_.Go.Creel.OwnBs.below {t : TypeId} {w w' : World} {B : Nat} {v : Value} {l : List UInt8} (h : OwnBs t w B v l) (hb : Below w.heap.size w w') : OwnBs t w' B v l := by
  rcases h.2 with ⟨rfl, h0⟩ | ⟨g, cap, cur, rfl, hbg, hg, hnc, hcm, hcs, htake⟩
  · exact ⟨h.1, .inl ⟨rfl, h0⟩⟩
  · have hlt : g < w.heap.size := (Array.getElem?_eq_some_iff.1 hg).1
    exact ⟨h.1, .inr ⟨g, cap, cur, rfl, hbg, (hb.block g hlt).trans hg, hnc, hcm, hcs, htake⟩⟩
theorem _root_.Go.Creel.OwnBs.mono {t : TypeId} {w : World} {B B' : Nat} {v : Value} {l : List UInt8} (h : OwnBs t w B v l) (hb : B' ≤ B) : OwnBs t w B' v l := by
  rcases h.2 with ⟨rfl, h0⟩ | ⟨g, cap, cur, rfl, hbg, hg, hnc, hcm, hcs, htake⟩
  · exact ⟨h.1, .inl ⟨rfl, h0⟩⟩
  · exact ⟨h.1, .inr ⟨g, cap, cur, rfl, Nat.le_trans hb hbg, hg, hnc, hcm, hcs, htake⟩⟩
open Go.Creel Go.RowKit
set_option maxRecDepth 100000 in
theorem End_any (w : World) : Calls Tryz.prog 47 #[] w fun e w' => ∃ v, e = .returned v ∧ OwnBs 5 w' w.heap.size v (List.replicate 1024 0) ∧ Below w.heap.size w w' := by
  obtain ⟨i0, hi, hz0, hz1, hz2⟩ := info_parts info_byte2
  have hmk : ∀ w : World, (Instr.makeSlice 24 (.int .i64 1024) (.int .i64 1024)).run Tryz.prog w = .ok (.slice (some ⟨w.heap.size, 0, none⟩) 1024 1024) (w.alloc (.cells (madeCells #[.int .u8 0] 1024) 5)) := fun w => run_make_bytes (P := Tryz.prog) w 24 5 i0 Tryz.underlying24 hi hz0 hz1 hz2 1024 (by omega)
  have HO := Lib.hid (ownB_made (t := 5) w 1024 (by decide))
  have HB := Lib.hid ((Below.refl w.heap.size w).alloc (Nat.le_refl _) (.cells (madeCells #[.int .u8 0] 1024) 5))
  clear hi hz0 hz1 hz2
  go_enter Tryz.func47, Tryz.ntmps47
  go_wp2
  go_ret
  refine ⟨_, rfl, ?_, HB.out⟩
  have e := HO.out
  unfold OwnB at e
  unfold OwnBs
  simp only [List.length_replicate] at e ⊢
  exact e
end Go.Proofs.YtaffgndickdbiaaGreatDoor
