/-
  order.Depth and its reference, walked.
-/
import Derived.Test.YtecmcgedeaemgaaDoorWalkG
namespace Go.Creel
theorem pathParts_posN {s : ByteArray} (h : 0 < s.size) : pathParts s = partsS 47 s := by unfold pathParts; rw [if_neg (by omega)]
theorem depth_yes {l : List Nod} {k n : Nat} (h : depthTo l k < (pathParts (nk l k).path).length) (hn : (pathParts (nk l k).path).length = n) : depthTo l (k + 1) = n := by simp only [depthTo]; omega
theorem depth_no {l : List Nod} {k : Nat} (h : ¬ depthTo l k < (pathParts (nk l k).path).length) : depthTo l (k + 1) = depthTo l k := by simp only [depthTo]; omega
end Go.Creel
namespace Go.Proofs.YtecmcgedeaemgaaDoor
set_option linter.unusedVariables false
set_option linter.unusedSimpArgs false
open Go.Creel Go.RowKit
set_option maxRecDepth 100000 in
set_option maxHeartbeats 1000000 in
theorem DepthL_ok (v : Value) (l : List Nod) (w : World) (hM : MaxOk w) (h : SliceC maxLen 12 (NodC maxLen) w [v] l) (hE : treeFault l = 0) :
    Calls Tryd.prog 40 #[v] w fun e w' => e = .returned (.tuple #[.int .i64 (orderDepth l).1, .int .i64 (orderDepth l).2]) ∧ Below w.heap.size w w' := by
  have HC := Lib.hid (TreeCheck_any v l w hM h)
  have HF := Lib.hid (orderDepth_ok hE)
  have hfew := (treeFault_all hE).1
  have HPS := Lib.hid (fun k (hk : k < l.length) => nodFault_size ((treeFault_all hE).2 k hk))
  have HDL := Lib.hid (fun k hk => depthTo_len (l := l) HPS.out k hk)
  have HM := Lib.hid hM
  rw [hE] at HC
  have HNV := nods_cases h
  clear hE h hM
  rcases HNV with ⟨a, cap, rfl, rfl, _⟩ | ⟨b, off, cap, rfl, h1, h2, h3, _, h4, h5⟩
  · go_enter Tryd.func40, Tryd.ntmps40
    go_wp2_with fail
    refine HC.out.mono ?_
    rintro e w2 ⟨rfl, hb⟩
    have HB2 := Lib.hid hb
    clear hb
    go_wp2
    go_loopw [5, 7, 15] (fun v5 _ i wr => v5 = .int .i64 0 ∧ i = .int .i64 0 ∧ wr = w2) (fun _ _ _ _ => 0)
    case atStart => exact ⟨rfl, rfl, rfl⟩
    case round =>
      obtain ⟨rfl, rfl, hw⟩ := hrel
      rw [hw]
      go_wp2
      go_ret2
      rw [HF.out]
      exact ⟨rfl, HB2.out⟩
  · have HNA := Lib.hid h4
    unfold maxLen at h3
    clear h4 h5
    go_enter Tryd.func40, Tryd.ntmps40
    go_wp2_with fail
    refine HC.out.mono ?_
    rintro e w2 ⟨rfl, hb⟩
    have HB2 := Lib.hid hb
    clear hb
    go_wp2
    go_loopw [5, 7, 15] (fun v5 _ i wr => ∃ (k d : Nat), k ≤ l.length ∧ i = .int .i64 k ∧ v5 = .int .i64 d ∧ Hid (d = depthTo l k) ∧ Hid (Below w.heap.size w wr)) (fun _ _ i _ => l.length - (intOf i).toNat)
    case atStart => exact ⟨0, 0, by omega, rfl, rfl, Lib.hid rfl, HB2⟩
    case round =>
      obtain ⟨k, d, hk, rfl, rfl, HDE, HB⟩ := hrel
      have hdl : d ≤ 401 := by rw [HDE.out]; exact HDL.out k hk
      by_cases hlt : k < l.length
      · obtain ⟨c0, c1, c2, c3, c4, c5, c6, c7, c8, c9, c10, c11⟩ := (HNA.out.below HB.out) k hlt
        have HMX := Lib.hid (show ((depthTo l (k + 1) : Nat) : Int) = max (d : Int) ((pathParts (nk l k).path).length : Int) by rw [HDE.out]; simp only [depthTo]; omega)
        have hdl2 := HDL.out (k + 1) (by omega)
        have hps := HPS.out k hlt
        have HP := Lib.hid (fun w hM => Parts_any (nk l k).path w hM (by omega))
        have hpl : (pathParts (nk l k).path).length ≤ 401 := by
          unfold pathParts
          split
          · simp
          · have := partsS_len 47 (nk l k).path; omega
        generalize nk l k = x at *
        have HBX := Lib.hid (HB.out.alloc HB.out.size (boxOf x))
        generalize pathParts x.path = P at *
        go_wp2_with fail
        refine (HP.out _ (HM.out.below HBX.out)).mono ?_
        rintro e w3 ⟨v3, rfl, ho, hb⟩
        have HB3 := Lib.hid (HBX.out.trans (hb.mono HBX.out.size))
        rcases ho.form with ⟨rfl, rfl⟩ | ⟨g, cp, rfl, _, _, _, _⟩
        · clear ho hb
          go_wp2
          go_roundw
          case rel => exact ⟨k + 1, depthTo l (k + 1), by omega, by go_num, by rw [HMX.out]; first | done | rfl | (congr 1; simp) | (congr 1; simp; omega), Lib.hid rfl, HB3⟩
          case measure => simp [intOf]; omega
        · clear ho hb
          go_wp2
          go_roundw
          case rel => exact ⟨k + 1, depthTo l (k + 1), by omega, by go_num, by rw [HMX.out]; first | done | rfl | (congr 1; simp) | (congr 1; simp; omega), Lib.hid rfl, HB3⟩
          case measure => simp [intOf]; omega
      · obtain rfl : k = l.length := by omega
        go_wp2
        go_ret2
        rw [HF.out, ← HDE.out]
        exact ⟨rfl, HB.out⟩
set_option maxRecDepth 100000 in
set_option maxHeartbeats 1000000 in
theorem DepthR_ok (v : Value) (l : List Nod) (w : World) (h : SliceC maxLen 12 (NodC maxLen) w [v] l) (hE : treeFault l = 0) :
    Calls Tryd.prog 42 #[v] w fun e w' => e = .returned (.tuple #[.int .i64 (orderDepth l).1, .int .i64 (orderDepth l).2]) ∧ Below w.heap.size w w' := by
  have HC := Lib.hid (TreeFault_any v l w h)
  have HF := Lib.hid (orderDepth_ok hE)
  have hfew := (treeFault_all hE).1
  have HPS := Lib.hid (fun k (hk : k < l.length) => nodFault_size ((treeFault_all hE).2 k hk))
  have HPP := Lib.hid (fun k (hk : k < l.length) => nodFault_posN ((treeFault_all hE).2 k hk))
  have HDL := Lib.hid (fun k hk => depthTo_len (l := l) HPS.out k hk)
  rw [hE] at HC
  have HNV := nods_cases h
  clear hE h
  rcases HNV with ⟨a, cap, rfl, rfl, _⟩ | ⟨b, off, cap, rfl, h1, h2, h3, _, h4, h5⟩
  · go_enter Tryd.func42, Tryd.ntmps42
    go_wp2_with fail
    refine HC.out.mono ?_
    rintro e w2 ⟨rfl, hb⟩
    have HB2 := Lib.hid hb
    clear hb
    go_wp2
    go_loopw [5, 7, 8, 16] (fun v5 _ _ i wr => v5 = .int .i64 0 ∧ i = .int .i64 0 ∧ wr = w2) (fun _ _ _ _ _ => 0)
    case atStart => exact ⟨rfl, rfl, rfl⟩
    case round =>
      obtain ⟨rfl, rfl, hw⟩ := hrel
      rw [hw]
      go_wp2
      go_ret2
      rw [HF.out]
      exact ⟨rfl, HB2.out⟩
  · have HNA := Lib.hid h4
    unfold maxLen at h3
    clear h4 h5
    go_enter Tryd.func42, Tryd.ntmps42
    go_wp2_with fail
    refine HC.out.mono ?_
    rintro e w2 ⟨rfl, hb⟩
    have HB2 := Lib.hid hb
    clear hb
    go_wp2
    go_loopw [5, 7, 8, 16] (fun v5 _ _ i wr => ∃ (k d : Nat), k ≤ l.length ∧ i = .int .i64 k ∧ v5 = .int .i64 d ∧ Hid (d = depthTo l k) ∧ Hid (Below w.heap.size w wr)) (fun _ _ _ i _ => l.length - (intOf i).toNat)
    case atStart => exact ⟨0, 0, by omega, rfl, rfl, Lib.hid rfl, HB2⟩
    case round =>
      obtain ⟨k, d, hk, rfl, rfl, HDE, HB⟩ := hrel
      have hdl : d ≤ 401 := by rw [HDE.out]; exact HDL.out k hk
      by_cases hlt : k < l.length
      · obtain ⟨c0, c1, c2, c3, c4, c5, c6, c7, c8, c9, c10, c11⟩ := (HNA.out.below HB.out) k hlt
        have HMX := Lib.hid (show ((depthTo l (k + 1) : Nat) : Int) = max (d : Int) ((pathParts (nk l k).path).length : Int) by rw [HDE.out]; simp only [depthTo]; omega)
        have hdl2 := HDL.out (k + 1) (by omega)
        have hps := HPS.out k hlt
        have HP := Lib.hid (fun w => parts_any (nk l k).path 47 47 rfl w (by omega))
        rw [show partsS 47 (nk l k).path = pathParts (nk l k).path from (pathParts_posN (HPP.out k hlt)).symm] at HP
        have hpl : (pathParts (nk l k).path).length ≤ 401 := by
          unfold pathParts
          split
          · simp
          · have := partsS_len 47 (nk l k).path; omega
        generalize nk l k = x at *
        have HBX := Lib.hid (HB.out.alloc HB.out.size (boxOf x))
        generalize pathParts x.path = P at *
        go_wp2_with fail
        refine (HP.out _).mono ?_
        rintro e w3 ⟨v3, rfl, ho, hb⟩
        have HB3 := Lib.hid (HBX.out.trans (hb.mono HBX.out.size))
        rcases ho.form with ⟨rfl, rfl⟩ | ⟨g, cp, rfl, _, _, _, _⟩
        · clear ho hb
          have HV := Lib.hid (show depthTo l (k + 1) = d by have := HMX.out; simp at this; omega)
          go_wp2
          go_roundw
          case rel => exact ⟨k + 1, depthTo l (k + 1), by omega, by go_num, by rw [HV.out], Lib.hid rfl, HB3⟩
          case measure => simp [intOf]; omega
        · clear ho hb
          by_cases hgt : d < P.length
          · have HV := Lib.hid (show depthTo l (k + 1) = P.length by have := HMX.out; omega)
            go_wp2
            go_roundw
            case rel => exact ⟨k + 1, depthTo l (k + 1), by omega, by go_num, by rw [HV.out], Lib.hid rfl, HB3⟩
            case measure => simp [intOf]; omega
          · have HV := Lib.hid (show depthTo l (k + 1) = d by have := HMX.out; omega)
            go_wp2
            go_roundw
            case rel => exact ⟨k + 1, depthTo l (k + 1), by omega, by go_num, by rw [HV.out], Lib.hid rfl, HB3⟩
            case measure => simp [intOf]; omega
      · obtain rfl : k = l.length := by omega
        go_wp2
        go_ret2
        rw [HF.out, ← HDE.out]
        exact ⟨rfl, HB.out⟩
set_option maxRecDepth 100000 in
set_option maxHeartbeats 1000000 in
theorem DepthL_any (v : Value) (l : List Nod) (w : World) (hM : MaxOk w) (h : SliceC maxLen 12 (NodC maxLen) w [v] l) :
    Calls Tryd.prog 40 #[v] w fun e w' => e = .returned (.tuple #[.int .i64 (orderDepth l).1, .int .i64 (orderDepth l).2]) ∧ Below w.heap.size w w' := by
  by_cases hE : treeFault l = 0
  · exact DepthL_ok v l w hM h hE
  · have HC := Lib.hid (TreeCheck_any v l w hM h)
    have HF := Lib.hid (orderDepth_bad hE)
    generalize treeFault l = tf at *
    have hq : (tf == 0) = false := by rw [beq_eq_false_iff_ne]; exact hE
    clear hE h
    go_enter Tryd.func40, Tryd.ntmps40
    go_wp2_with fail
    refine HC.out.mono ?_
    rintro e w1 ⟨rfl, hb⟩
    have HB1 := Lib.hid hb
    clear hb
    go_wp2
    go_ret2
    rw [HF.out]
    exact ⟨rfl, HB1.out⟩
set_option maxRecDepth 100000 in
set_option maxHeartbeats 1000000 in
theorem DepthR_any (v : Value) (l : List Nod) (w : World) (h : SliceC maxLen 12 (NodC maxLen) w [v] l) :
    Calls Tryd.prog 42 #[v] w fun e w' => e = .returned (.tuple #[.int .i64 (orderDepth l).1, .int .i64 (orderDepth l).2]) ∧ Below w.heap.size w w' := by
  by_cases hE : treeFault l = 0
  · exact DepthR_ok v l w h hE
  · have HC := Lib.hid (TreeFault_any v l w h)
    have HF := Lib.hid (orderDepth_bad hE)
    generalize treeFault l = tf at *
    have hq : (tf == 0) = false := by rw [beq_eq_false_iff_ne]; exact hE
    clear hE h
    go_enter Tryd.func42, Tryd.ntmps42
    go_wp2_with fail
    refine HC.out.mono ?_
    rintro e w1 ⟨rfl, hb⟩
    have HB1 := Lib.hid hb
    clear hb
    go_wp2
    go_ret2
    rw [HF.out]
    exact ⟨rfl, HB1.out⟩
end Go.Proofs.YtecmcgedeaemgaaDoor
