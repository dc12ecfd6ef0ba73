/-
  fault.Check and its reference.
-/
import Derived.Test.YtiiojjhfncefgaaDoorFlts
import Derived.Test.YtiiojjhfncefgaaDoorPathCheck
import Derived.StillTailTactics
namespace Go.Proofs.YtiiojjhfncefgaaDoor
set_option linter.unusedVariables false
set_option linter.unusedSimpArgs false
open Go.Creel Go.RowKit
set_option maxRecDepth 100000 in
set_option maxHeartbeats 2000000 in
theorem FaultsL_at (b off cap : Nat) (l : List Flt) (w : World) (hM : MaxOk w) (hpos : 0 < l.length) (hle : l.length ≤ cap) (hm : cap ≤ maxLen) (hc : FltsAt w b off l) (ho : ∀ i, i < l.length → (fk l i).path.size ≤ maxLen ∧ i64 (fk l i).code) :
    Calls Tryd.prog 85 #[.slice (some ⟨b, off, none⟩) l.length cap] w fun e w' => e = .returned (.int .i64 (fltsFault l)) ∧ Below w.heap.size w w' := by
  have hm' := hm
  unfold maxLen at hm
  have HC := Lib.hid hc
  have HP := Lib.hid (fun k hk => (ho k hk).1)
  have HCO := Lib.hid (fun k hk => (ho k hk).2)
  have HCAP := Lib.hid hm'
  have HM := Lib.hid hM
  clear hc ho hm'
  by_cases hmany : 12 < l.length
  · have HF := Lib.hid (fltsFault_many hmany)
    go_enter Tryd.func85, Tryd.ntmps85
    go_wp2
    go_ret
    exact ⟨ret_i HF.out, Below.refl _ _⟩
  have hfew : l.length ≤ 12 := by omega
  clear hmany
  go_enter Tryd.func85, Tryd.ntmps85
  go_wp2
  go_loopw [3, 4, 5, 11] (fun _ _ _ i wr => ∃ k : Nat, k ≤ l.length ∧ i = .int .i64 k ∧ Hid (∀ j, j < k → stepL l j = 0) ∧ Hid (Below w.heap.size w wr)) (fun _ _ _ i _ => l.length - (intOf i).toNat)
  case atStart => exact ⟨0, by omega, rfl, Lib.hid fun j hj => absurd hj (by omega), Lib.hid (Below.refl _ _)⟩
  case round =>
    obtain ⟨k, hk, rfl, HZ, HB⟩ := hrel
    by_cases hlt : k < l.length
    · obtain ⟨h0, h1⟩ := (HC.out.below HB.out) k hlt
      have HAT := Lib.hid (fun e => fltsFault_at (e := e) hfew hlt HZ.out)
      have HBX := Lib.hid (fltAt_box wr (fk l k) 128)
      by_cases hA : pathFault (fk l k).path = 0
      · have HA := Lib.hid hA
        clear hA
        go_wp2_with fail
        refine (PathCheck_any (fk l k).path _ (HM.out.below (HB.out.alloc HB.out.size _)) (HP.out k hlt)).mono ?_
        rintro e w1 ⟨rfl, hb⟩
        have HB1 := Lib.hid ((HB.out.alloc HB.out.size _).trans (hb.mono (by simp; exact Nat.le_succ_of_le HB.out.size)))
        have HBX1 := Lib.hid (HBX.out.below hb)
        rw [HA.out]
        clear hb h0 h1
        generalize wr.heap.size = bx at *
        obtain ⟨g0, g1⟩ := HBX1.out.zero
        by_cases hcd : (fk l k).code < 1
        · have HF := Lib.hid (HAT.out 4 (stepL_code HA.out hcd) (by decide))
          go_wp2
          all_goals first | (exfalso; omega) | (go_ret; exact ⟨ret_i HF.out, HB1.out⟩)
        · have HCD := Lib.hid hcd
          have htk : (l.take k).length = k := by rw [List.length_take]; omega
          have hix := FltIndex_at b off cap (l.take k) (fk l k).path w1.drew (by omega) HCAP.out (((HC.out.below HB1.out).below (Below.refl _ _).drew).take k)
          rw [htk] at hix
          have HIX := Lib.hid hix
          have hkc : k ≤ cap := by omega
          clear hix htk
          by_cases hT : TwoOk l k
          · have HS := Lib.hid (stepL_ok HA.out (by have := HCD.out; omega) hT)
            have hidx : idxOf (fltFind (l.take k) (fk l k).path) k = -1 := by unfold idxOf; rw [if_neg ((two_iff hlt).1 hT)]
            rw [hidx] at HIX
            clear hT hidx
            go_wp2
            go_still_tail 5, (by kernel_rfl)
            go_wp2_with fail
            refine HIX.out.mono ?_
            rintro e w2 ⟨rfl, hb⟩
            have HB2 := Lib.hid (HB1.out.trans (((Below.refl w1.heap.size w1).drew.trans hb).mono HB1.out.size))
            clear hb
            go_wp2
            go_roundw
            case rel => exact ⟨k + 1, by omega, by go_num, Lib.hid (zsL_next HZ.out HS.out), HB2⟩
            case measure => simp [intOf]; omega
          · have HF := Lib.hid (HAT.out 6 (stepL_two HA.out (by have := HCD.out; omega) hT) (by decide))
            have hlt2 : fltFind (l.take k) (fk l k).path < k := Classical.byContradiction fun e => hT ((two_iff hlt).2 e)
            have hidx : idxOf (fltFind (l.take k) (fk l k).path) k = (fltFind (l.take k) (fk l k).path : Nat) := by unfold idxOf; rw [if_pos hlt2]
            rw [hidx] at HIX
            clear hT hidx hlt2
            generalize fltFind (l.take k) (fk l k).path = n at *
            go_wp2
            go_still_tail 5, (by kernel_rfl)
            go_wp2_with fail
            refine HIX.out.mono ?_
            rintro e w2 ⟨rfl, hb⟩
            have HB2 := Lib.hid (HB1.out.trans (((Below.refl w1.heap.size w1).drew.trans hb).mono HB1.out.size))
            clear hb
            go_wp2
            go_ret
            exact ⟨ret_i HF.out, HB2.out⟩
      · have HF := Lib.hid (HAT.out _ (stepL_path hA) hA)
        go_wp2_with fail
        refine (PathCheck_any (fk l k).path _ (HM.out.below (HB.out.alloc HB.out.size _)) (HP.out k hlt)).mono ?_
        rintro e w1 ⟨rfl, hb⟩
        have HB1 := Lib.hid ((HB.out.alloc HB.out.size _).trans (hb.mono (by simp; exact Nat.le_succ_of_le HB.out.size)))
        clear hb h0 h1
        generalize pathFault (fk l k).path = q at *
        go_wp2
        go_ret
        exact ⟨ret_i HF.out, HB1.out⟩
    · obtain rfl : k = l.length := by omega
      have HF := Lib.hid (fltsFault_ok hfew HZ.out)
      go_wp2
      go_ret
      exact ⟨ret_i HF.out, HB.out⟩
set_option maxRecDepth 100000 in
theorem FaultsL_nil (a : Option Addr) (cap : Nat) (w : World) :
    Calls Tryd.prog 85 #[.slice a 0 cap] w fun e w' => e = .returned (.int .i64 0) ∧ w = w' := by
  go_enter Tryd.func85, Tryd.ntmps85
  go_wp2
  go_loop [3, 4, 5, 11] (fun _ _ _ i => i = .int .i64 0) (fun _ _ _ _ => 0)
  case atStart => rfl
  case round =>
    obtain rfl := hrel
    go_wp2
    go_ret
    exact ⟨rfl, rfl⟩
theorem FaultsL_any (v : Value) (l : List Flt) (w : World) (hM : MaxOk w) (h : SliceC maxLen 2 (FltC maxLen) w [v] l) :
    Calls Tryd.prog 85 #[v] w fun e w' => e = .returned (.int .i64 (fltsFault l)) ∧ Below w.heap.size w w' := by
  rcases flts_cases h with ⟨a, cap, rfl, rfl, _⟩ | ⟨b, off, cap, rfl, h1, h2, h3, _, h4, h5⟩
  · rw [show fltsFault [] = 0 from fltsFault_ok (by simp) (fun j hj => absurd hj (by simp))]
    exact (FaultsL_nil a cap w).mono fun e w' ⟨h1, h2⟩ => ⟨h1, by rw [← h2]; exact Below.refl _ _⟩
  · exact FaultsL_at b off cap l w hM h1 h2 h3 h4 h5
set_option maxRecDepth 100000 in
set_option maxHeartbeats 2000000 in
theorem FaultsR_at (b off cap : Nat) (l : List Flt) (w : World) (hpos : 0 < l.length) (hle : l.length ≤ cap) (hm : cap ≤ maxLen) (hc : FltsAt w b off l) (ho : ∀ i, i < l.length → (fk l i).path.size ≤ maxLen ∧ i64 (fk l i).code) :
    Calls Tryd.prog 86 #[.slice (some ⟨b, off, none⟩) l.length cap] w fun e w' => e = .returned (.int .i64 (fltsFault l)) ∧ Below w.heap.size w w' := by
  have hm' := hm
  unfold maxLen at hm
  have HC := Lib.hid hc
  have HP := Lib.hid (fun k hk => (ho k hk).1)
  have HCO := Lib.hid (fun k hk => (ho k hk).2)
  have HCAP := Lib.hid hm'

  clear hc ho hm'
  by_cases hmany : 12 < l.length
  · have HF := Lib.hid (fltsFault_many hmany)
    go_enter Tryd.func86, Tryd.ntmps86
    go_wp2
    go_ret
    exact ⟨ret_i HF.out, Below.refl _ _⟩
  have hfew : l.length ≤ 12 := by omega
  clear hmany
  go_enter Tryd.func86, Tryd.ntmps86
  go_wp2
  go_loopw [3, 4, 5, 6, 12] (fun _ _ _ _ i wr => ∃ k : Nat, k ≤ l.length ∧ i = .int .i64 k ∧ Hid (∀ j, j < k → stepL l j = 0) ∧ Hid (Below w.heap.size w wr)) (fun _ _ _ _ i _ => l.length - (intOf i).toNat)
  case atStart => exact ⟨0, by omega, rfl, Lib.hid fun j hj => absurd hj (by omega), Lib.hid (Below.refl _ _)⟩
  case round =>
    obtain ⟨k, hk, rfl, HZ, HB⟩ := hrel
    by_cases hlt : k < l.length
    · obtain ⟨h0, h1⟩ := (HC.out.below HB.out) k hlt
      have HAT := Lib.hid (fun e => fltsFault_at (e := e) hfew hlt HZ.out)
      have HBX := Lib.hid (fltAt_box wr (fk l k) 128)
      by_cases hA : pathFault (fk l k).path = 0
      · have HA := Lib.hid hA
        clear hA
        go_wp2_with fail
        refine (PathFault_any (fk l k).path _ (HP.out k hlt)).mono ?_
        rintro e w1 ⟨rfl, hb⟩
        have HB1 := Lib.hid ((HB.out.alloc HB.out.size _).trans (hb.mono (by simp; exact Nat.le_succ_of_le HB.out.size)))
        have HBX1 := Lib.hid (HBX.out.below hb)
        rw [HA.out]
        clear hb h0 h1
        generalize wr.heap.size = bx at *
        obtain ⟨g0, g1⟩ := HBX1.out.zero
        by_cases hcd : (fk l k).code < 1
        · have HF := Lib.hid (HAT.out 4 (stepL_code HA.out hcd) (by decide))
          go_wp2
          all_goals first | (exfalso; omega) | (go_ret; exact ⟨ret_i HF.out, HB1.out⟩)
        · have HCD := Lib.hid hcd
          go_wp2
          go_loopw [6] (fun i wr => ∃ j : Nat, j ≤ k ∧ i = .int .i64 j ∧ Hid (∀ q, q < j → (fk l q).path ≠ (fk l k).path) ∧ Hid (Below w1.heap.size w1 wr)) (fun i _ => k - (intOf i).toNat)
          case atStart => exact ⟨0, by omega, rfl, Lib.hid fun j hj => absurd hj (by omega), Lib.hid (Below.refl _ _)⟩
          case round =>
            obtain ⟨j, hj, rfl, HD, HBI⟩ := hrel
            clear g0 g1
            by_cases hjk : j < k
            · obtain ⟨g0, g1⟩ := (HBX1.out.below HBI.out).zero
              obtain ⟨y0, y1⟩ := ((HC.out.below HB1.out).below HBI.out) j (by omega)
              have hjl : (j : Int) < (l.length : Int) := by omega
              by_cases he : (fk l j).path = (fk l k).path
              · have hq := seq_t he
                have HF := Lib.hid (HAT.out 6 (stepL_two HA.out (by have := HCD.out; omega) (fun e => e j hjk he)) (by decide))
                clear he
                go_wp2
                go_quiet (fail)
                go_wp2
                go_ret
                exact ⟨ret_i HF.out, HB1.out.trans ((HBI.out.trans (below_draws _ _ _)).mono HB1.out.size)⟩
              · have hq := seq_f he
                have HE := Lib.hid he
                clear he
                go_wp2
                go_quiet (fail)
                go_wp2
                go_roundw
                case rel => exact ⟨j + 1, by omega, by go_num, Lib.hid fun q hq => by
                  by_cases e : q = j
                  · rw [e]; exact HE.out
                  · exact HD.out q (by omega), Lib.hid (HBI.out.trans (below_draws _ _ _))⟩
                case measure => simp [intOf]; omega
            · obtain rfl : j = k := by omega
              have HS := Lib.hid (stepL_ok HA.out (by have := HCD.out; omega) HD.out)
              have HB4 := Lib.hid (HB1.out.trans (HBI.out.mono HB1.out.size))
              go_wp2
              go_roundw
              case rel => exact ⟨j + 1, by omega, by go_num, Lib.hid (zsL_next HZ.out HS.out), HB4⟩
              case measure => simp [intOf]; omega
      · have HF := Lib.hid (HAT.out _ (stepL_path hA) hA)
        go_wp2_with fail
        refine (PathFault_any (fk l k).path _ (HP.out k hlt)).mono ?_
        rintro e w1 ⟨rfl, hb⟩
        have HB1 := Lib.hid ((HB.out.alloc HB.out.size _).trans (hb.mono (by simp; exact Nat.le_succ_of_le HB.out.size)))
        clear hb h0 h1
        generalize pathFault (fk l k).path = q at *
        go_wp2
        go_ret
        exact ⟨ret_i HF.out, HB1.out⟩
    · obtain rfl : k = l.length := by omega
      have HF := Lib.hid (fltsFault_ok hfew HZ.out)
      go_wp2
      go_ret
      exact ⟨ret_i HF.out, HB.out⟩
set_option maxRecDepth 100000 in
theorem FaultsR_nil (a : Option Addr) (cap : Nat) (w : World) :
    Calls Tryd.prog 86 #[.slice a 0 cap] w fun e w' => e = .returned (.int .i64 0) ∧ w = w' := by
  go_enter Tryd.func86, Tryd.ntmps86
  go_wp2
  go_loop [3, 4, 5, 6, 12] (fun _ _ _ _ i => i = .int .i64 0) (fun _ _ _ _ _ => 0)
  case atStart => rfl
  case round =>
    obtain rfl := hrel
    go_wp2
    go_ret
    exact ⟨rfl, rfl⟩
theorem FaultsR_any (v : Value) (l : List Flt) (w : World) (h : SliceC maxLen 2 (FltC maxLen) w [v] l) :
    Calls Tryd.prog 86 #[v] w fun e w' => e = .returned (.int .i64 (fltsFault l)) ∧ Below w.heap.size w w' := by
  rcases flts_cases h with ⟨a, cap, rfl, rfl, _⟩ | ⟨b, off, cap, rfl, h1, h2, h3, _, h4, h5⟩
  · rw [show fltsFault [] = 0 from fltsFault_ok (by simp) (fun j hj => absurd hj (by simp))]
    exact (FaultsR_nil a cap w).mono fun e w' ⟨h1, h2⟩ => ⟨h1, by rw [← h2]; exact Below.refl _ _⟩
  · exact FaultsR_at b off cap l w h1 h2 h3 h4 h5
end Go.Proofs.YtiiojjhfncefgaaDoor
