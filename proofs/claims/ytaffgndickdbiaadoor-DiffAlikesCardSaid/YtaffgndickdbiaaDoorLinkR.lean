/-
  creelref.LinkFirsts.
-/
import Derived.Test.YtaffgndickdbiaaDoorLinkF
namespace Go.Creel
set_option linter.unusedVariables false
open Go.RowKit
theorem fstIdx_at {l : List Nod} {k q : Nat} (hq : q < k) (h : (nk l k).same ≠ 0) (he : (nk l q).same = (nk l k).same) (hn : ∀ j, j < q → (nk l j).same ≠ (nk l k).same) : fstIdx l k = q := by
  refine fstIdx_some h ?_
  unfold fstAt
  rw [List.find?_range_eq_some]
  refine ⟨by simp [he], List.mem_range.2 hq, fun j hj => by simpa using hn j hj⟩
theorem fstIdx_own {l : List Nod} {k : Nat} (hn : ∀ j, j < k → (nk l j).same ≠ (nk l k).same) : fstIdx l k = k := by
  by_cases h : (nk l k).same = 0
  · exact fstIdx_zero h
  · refine fstIdx_none h ?_
    unfold fstAt
    rw [List.find?_eq_none]
    intro j hj
    simpa using hn j (List.mem_range.1 hj)
end Go.Creel
namespace Go.Proofs.YtaffgndickdbiaaDoor
set_option linter.unusedVariables false
set_option linter.unusedSimpArgs false
open Go.Creel Go.RowKit
set_option maxRecDepth 100000 in
set_option maxHeartbeats 4000000 in
theorem LinkR_at (b off cap : Nat) (l : List Nod) (w : World) (hpos : 0 < l.length) (hle : l.length ≤ cap) (hm : cap ≤ maxLen) (hc : NodsAt w b off l) (h : SliceC maxLen 12 (NodC maxLen) w [.slice (some ⟨b, off, none⟩) l.length cap] l) :
    Calls Tryd.prog 79 #[.slice (some ⟨b, off, none⟩) l.length cap] w (RetIE 3 w (linkFirsts l)) := by
  obtain ⟨i0, hi, hz0, hz1, hz2⟩ := info_parts info_int
  have HI := Lib.hid (And.intro hi (And.intro hz0 (And.intro hz1 hz2)))
  have H := Lib.hid h
  have HCW := Lib.hid hc
  unfold maxLen at hm
  clear h hc hi hz0 hz1 hz2
  by_cases hE : treeFault l = 0
  · have HE := Lib.hid hE
    have HF := Lib.hid (linkFirsts_ok hE)
    have hfew := (treeFault_all hE).1
    clear hE
    go_enter Tryd.func79, Tryd.ntmps79
    go_wp2_with fail
    refine (TreeFault_any _ l _ H.out).mono ?_
    rintro e wa ⟨rfl, hb⟩
    have HBA0 := Lib.hid hb
    have HC := Lib.hid (HCW.out.below hb)
    rw [HE.out]
    clear hb
    go_wp2
    go_loopw [5, 6, 7] (fun v i _ wr => ∃ k : Nat, k ≤ l.length ∧ i = .int .i64 k ∧ Hid (OwnIs 3 wr wa.heap.size v (firstsL l k)) ∧ Hid (Below wa.heap.size wa wr)) (fun _ i _ _ => l.length - (intOf i).toNat)
    case atStart => exact ⟨0, by omega, rfl, Lib.hid (World.ownsRow_nil _ _ _ 1), Lib.hid (Below.refl _ _)⟩
    case round =>
      obtain ⟨k, hk, rfl, HOW, HB⟩ := hrel
      have hfl := firstsL_len l k
      by_cases hlt : k < l.length
      · have hkl : (k : Int) < (l.length : Int) := by omega
        have HCB := Lib.hid (HC.out.below HB.out)
        obtain ⟨wo, hwo⟩ : ∃ x : World, x = wr := ⟨_, rfl⟩
        go_wp2
        go_loopw [7] (fun i wr2 => ∃ q : Nat, q ≤ k ∧ i = .int .i64 q ∧ Hid (∀ j, j < q → (nk l k).same ≠ 0 → (nk l j).same ≠ (nk l k).same) ∧ Hid (Below wr.heap.size wr wr2)) (fun i _ => k - (intOf i).toNat)
        case atStart => exact ⟨0, by omega, rfl, Lib.hid fun j hj => absurd hj (by omega), Lib.hid (Below.refl _ _)⟩
        case round =>
          obtain ⟨q, hq, rfl, HD, HBI⟩ := hrel
          obtain ⟨_, _, x2, _⟩ := (HCB.out.below HBI.out) k hlt
          by_cases hqk : q < k
          · obtain ⟨_, _, y2, _⟩ := (HCB.out.below HBI.out) q (by omega)
            have hql : (q : Int) < (l.length : Int) := by omega
            by_cases h0 : (nk l k).same = 0
            · have hs0 : ((nk l k).same == 0) = true := by rw [h0]; rfl
              have HZ := Lib.hid h0
              clear h0
              go_wp2
              go_quiet (fail)
              go_wp2
              go_roundw
              case rel => exact ⟨q + 1, by omega, by go_num, Lib.hid fun j hj h => absurd HZ.out h, Lib.hid (HBI.out.trans (below_draws _ _ _))⟩
              case measure => simp [intOf]; omega
            · have hs0 : ((nk l k).same == 0) = false := by rw [beq_eq_false_iff_ne]; exact h0
              by_cases he : (nk l q).same = (nk l k).same
              · have HIX := Lib.hid (fstIdx_at hqk h0 he (fun j hj => HD.out j hj h0))
                have hsq : ((nk l q).same != (nk l k).same) = false := by rw [he]; simp
                clear h0 he
                go_wp2
                go_quiet (fail)
                have HBX := Lib.hid (HBI.out.trans (below_draws _ _ nq))
                generalize wr.drewN nq = wx at *
                have HA := Lib.hid ((Below.refl wx.heap.size wx).alloc (Nat.le_refl _) (.cells #[.int .i64 (q : Int)] 3))
                have HB5 := Lib.hid (HB.out.trans (HBX.out.mono HB.out.size))
                have HOA := Lib.hid (OwnIs.below (HOW.out.below HBX.out) HA.out)
                have HBA := Lib.hid (HB5.out.trans (HA.out.mono HB5.out.size))
                have HSA := Lib.hid (HBA.out.size)
                go_wp2_with (at_builtin; refine wpList_app _ rfl (.tmp 45) (.tmp 47) 102 102 rfl _ _ rfl rfl (n := (firstsL l k).length) (fun ty => app_src _ _ _ _ wa.heap.size 3 i0 (.int .i64 0) 1 8 Tryd.underlying102 HI.out.1 HI.out.2.1 HI.out.2.2.1 HI.out.2.2.2 rfl (by decide) _ _ _ _ _ _ HOA.out (src_one wx _ _ _ Tryd.underlying102 _ rfl) (by unfold maxLen; omega) (by omega) HSA.out) ?_; intro v1 w4 ho hg _)
                have HO4 := Lib.hid (OwnIs.app (m := [(q : Int)]) ho)
                have HB4 := Lib.hid (below_app HBA.out hg HOA.out HSA.out)
                clear ho hg
                go_wp2
                go_roundw
                case rel => exact ⟨k + 1, by omega, by go_num, Lib.hid (by rw [firstsL_succ, HIX.out]; exact HO4.out), HB4⟩
                case measure => simp [intOf]; omega
              · have HNE := Lib.hid he
                have hsq : ((nk l q).same != (nk l k).same) = true := by rw [bne_iff_ne]; exact he
                clear h0 he
                go_wp2
                go_quiet (fail)
                go_wp2
                go_roundw
                case rel => exact ⟨q + 1, by omega, by go_num, Lib.hid fun j hj h => by
                  by_cases e : j = q
                  · rw [e]; exact HNE.out
                  · exact HD.out j (by omega) h, Lib.hid (HBI.out.trans (below_draws _ _ _))⟩
                case measure => simp [intOf]; omega
          · obtain rfl : q = k := by omega
            have HIX := Lib.hid (show fstIdx l q = q by
              by_cases h0 : (nk l q).same = 0
              · exact fstIdx_zero h0
              · exact fstIdx_own (fun j hj => HD.out j hj h0))
            have hdq : decide ((q : Int) < (q : Int)) = false := by simp
            go_wp2
            go_quiet (fail)
            have HBX := Lib.hid (HBI.out.trans (below_draws _ _ nq))
            generalize wr.drewN nq = wx at *
            have HA := Lib.hid ((Below.refl wx.heap.size wx).alloc (Nat.le_refl _) (.cells #[.int .i64 (q : Int)] 3))
            have HB5 := Lib.hid (HB.out.trans (HBX.out.mono HB.out.size))
            have HOA := Lib.hid (OwnIs.below (HOW.out.below HBX.out) HA.out)
            have HBA := Lib.hid (HB5.out.trans (HA.out.mono HB5.out.size))
            have HSA := Lib.hid (HBA.out.size)
            go_wp2_with (at_builtin; refine wpList_app _ rfl (.tmp 45) (.tmp 47) 102 102 rfl _ _ rfl rfl (n := (firstsL l q).length) (fun ty => app_src _ _ _ _ wa.heap.size 3 i0 (.int .i64 0) 1 8 Tryd.underlying102 HI.out.1 HI.out.2.1 HI.out.2.2.1 HI.out.2.2.2 rfl (by decide) _ _ _ _ _ _ HOA.out (src_one wx _ _ _ Tryd.underlying102 _ rfl) (by unfold maxLen; omega) (by omega) HSA.out) ?_; intro v1 w4 ho hg _)
            have HO4 := Lib.hid (OwnIs.app (m := [(q : Int)]) ho)
            have HB4 := Lib.hid (below_app HBA.out hg HOA.out HSA.out)
            clear ho hg
            go_wp2
            go_roundw
            case rel => exact ⟨q + 1, by omega, by go_num, Lib.hid (by rw [firstsL_succ, HIX.out]; exact HO4.out), HB4⟩
            case measure => simp [intOf]; omega
      · obtain rfl : k = l.length := by omega
        go_wp2
        go_ret2
        rw [HF.out]
        exact ⟨_, rfl, HOW.out.mono HBA0.out.size, HBA0.out.trans (HB.out.mono HBA0.out.size)⟩
  · have HF := Lib.hid (linkFirsts_bad hE)
    have HE := Lib.hid hE
    clear hE
    go_enter Tryd.func79, Tryd.ntmps79
    go_wp2_with fail
    refine (TreeFault_any _ l _ H.out).mono ?_
    rintro e wc ⟨rfl, hb⟩
    have HBC := Lib.hid hb
    clear hb
    have hne := HE.out
    generalize treeFault l = q at *
    go_wp2
    go_ret2
    rw [HF.out]
    exact ⟨_, rfl, World.ownsRow_nil _ _ _ 1, HBC.out⟩
end Go.Proofs.YtaffgndickdbiaaDoor
