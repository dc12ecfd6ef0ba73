/-
  The law HeadWrites, walked.
-/
import Derived.Test.YtiiojjhfncefgabHeadR
namespace Go.Proofs.Ytiiojjhfncefgab
set_option linter.unusedVariables false
set_option linter.unusedSimpArgs false
open Go.Creel Go.RowKit
set_option maxRecDepth 100000 in
set_option maxHeartbeats 2000000 in
theorem HeadCheck_any (n : HeadN) (w : World) (hok : n.Ok maxLen) :
    Calls Try.prog 7 #[HeadN.val' n] w fun e w' => e = .returned (.int .i64 (headText n).2) ∧ Below w.heap.size w w' := by
  have HW := Lib.hid (fun w => HeadWrite_any n w hok)
  have HB0 := Lib.hid ((Below.refl w.heap.size w).alloc (Nat.le_refl _) (headBox n 27))
  generalize headText n = p at *
  obtain ⟨t, e0⟩ := p
  clear hok
  go_enter Try.func7, Try.ntmps7
  go_wp2_with fail
  refine (HW.out _).mono ?_
  rintro e w1 ⟨rfl, hb⟩
  have HB := Lib.hid (HB0.out.trans (hb.mono HB0.out.size))
  clear hb
  go_wp2
  go_ret
  exact ⟨rfl, HB.out⟩
set_option maxRecDepth 100000 in
set_option maxHeartbeats 2000000 in
theorem headWrites_walk {N : Nat} (w : World) (cs : List Value) (n : HeadN) (h : HeadC N w cs n) (hN : N ≤ maxLen := by exact Nat.le_refl _) :
    Calls Try.prog 4 #[.agg cs.toArray] w fun e w' => e = .returned (.bool true) ∧ Below w.heap.size w w' := by
  obtain ⟨rfl, hm⟩ := h
  show Calls Try.prog 4 #[HeadN.val' n] w _
  have hok : n.Ok maxLen := ⟨Nat.le_trans hm.nm hN, Nat.le_trans hm.px hN, Nat.le_trans hm.lk hN, hm.mode, hm.uid, hm.gid, hm.size, hm.time, Nat.le_trans hm.user hN, Nat.le_trans hm.group hN⟩
  have H1 := Lib.hid (fun w => HeadCheck_any n w hok)
  have H2 := Lib.hid (fun w => HeadWrite_any n w hok)
  have H3 := Lib.hid (fun w => HeadText_any n w hok)
  have HB0 := Lib.hid ((Below.refl w.heap.size w).alloc (Nat.le_refl _) (headBox n 27))
  have HA0 := Lib.hid (headAt_box w n 27)
  clear hm hok
  generalize headText n = p at *
  obtain ⟨t, e0⟩ := p
  go_enter Try.func4, Try.ntmps4
  go_wp2_with fail
  refine (H1.out _).mono ?_
  rintro e w1 ⟨rfl, hb⟩
  have HB1 := Lib.hid (HB0.out.trans (hb.mono HB0.out.size))
  have HA1 := Lib.hid (HA0.out.below hb HA0.out.lt)
  clear hb
  obtain ⟨h0, h1, h2, h3, h4, h5, h6, h7, h8, h9, h10⟩ := HA1.out
  go_wp2_with fail
  clear h0 h1 h2 h3 h4 h5 h6 h7 h8 h9 h10
  refine (H2.out _).mono ?_
  rintro e w2 ⟨rfl, hb⟩
  have HB2 := Lib.hid (HB1.out.trans (hb.mono HB1.out.size))
  have HA2 := Lib.hid (HA1.out.below hb HA1.out.lt)
  clear hb
  obtain ⟨h0, h1, h2, h3, h4, h5, h6, h7, h8, h9, h10⟩ := HA2.out
  go_wp2_with fail
  clear h0 h1 h2 h3 h4 h5 h6 h7 h8 h9 h10
  refine (H3.out _).mono ?_
  rintro e w3 ⟨rfl, hb⟩
  have HB3 := Lib.hid (HB2.out.trans (hb.mono HB2.out.size))
  clear hb
  have q1 : (e0 == e0) = true := by simp
  go_wp2
  go_ret
  exact ⟨rfl, HB3.out⟩
end Go.Proofs.Ytiiojjhfncefgab
