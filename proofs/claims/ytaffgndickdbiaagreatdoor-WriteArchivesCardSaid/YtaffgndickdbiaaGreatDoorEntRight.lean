/-
  plan.Right.
-/
import Derived.Test.YtaffgndickdbiaaGreatDoorEntSpec
namespace Go.Proofs.YtaffgndickdbiaaGreatDoor
set_option linter.unusedVariables false
set_option linter.unusedSimpArgs false
open Go.Creel Go.RowKit
set_option maxRecDepth 100000 in
set_option maxHeartbeats 40000000 in
theorem PlanRight_any {N : Nat} (x : Ent) (w : World) (hM : MaxOk w) (hp : x.path.size ≤ N) (ht : x.target.size ≤ N) (hm : x.mt.Ok N) (hd : x.data.length ≤ maxLen) (hk : i64 x.kind) (hN : N ≤ maxLen) :
    Calls Tryz.prog 36 #[x.val] w fun e w' => e = .returned (.int .i64 (entFault x)) ∧ Below w.heap.size w w' := by
  obtain ⟨path, kind, target, ⟨mode, uid, gid, user, group, second, nano⟩, da, dcap, data⟩ := x
  unfold maxLen at hd
  have HPZ := Lib.hid (Nat.le_trans hp hN)
  have HTZ := Lib.hid (Nat.le_trans ht hN)
  have htz := Nat.le_trans ht hN
  unfold maxLen at htz
  have HMO := Lib.hid hm
  have HM := Lib.hid hM
  have hk2 := hk
  unfold i64 at hk2
  have hix := idx_has target 0
  have HF : Hid (∀ c, entFaultN (pathFault path) (metaFault ⟨mode, uid, gid, user, group, second, nano⟩) kind data.length target.size (pathFault target) (hasB target 0) = c → entFault ⟨path, kind, target, ⟨mode, uid, gid, user, group, second, nano⟩, da, dcap, data⟩ = c) := Lib.hid fun c h => h
  generalize hR : entFault _ = R at *
  clear hp ht hm hM hk hR
  have hix0 : Hid (hasB target 0 = true ∨ hasB target 0 = false) := Lib.hid (by cases hasB target 0 <;> simp)
  show Calls Tryz.prog 36 #[.agg #[.string path, .int .i64 kind, .string target, .int .i64 mode, .int .i64 uid, .int .i64 gid, .string user, .string group, .int .i64 second, .int .i64 nano, .slice da data.length dcap]] w _
  go_enter Tryz.func36, Tryz.ntmps36
  go_wp2_with fail
  refine (PathCheck_any path _ (HM.out.below ((Below.refl _ _).alloc (Nat.le_refl _) _)) HPZ.out).mono ?_
  rintro e w1 ⟨rfl, hb⟩
  have HB1 := Lib.hid (((Below.refl _ _).alloc (Nat.le_refl _) _).trans (hb.mono (by simp)))
  obtain ⟨hc1, _⟩ := bcell hb
  have HB := Lib.hid hb
  clear hb
  by_cases hp0 : pathFault path = 0
  · rw [hp0]
    have HP0 := Lib.hid hp0
    clear hp0
    go_wp2_with fail
    refine (MetaCheck_any ⟨mode, uid, gid, user, group, second, nano⟩ _ HMO.out hN).mono ?_
    rintro e w2 ⟨rfl, hb⟩
    have HB2 := Lib.hid (HB1.out.trans (hb.mono HB1.out.size))
    have hb2 := HB.out.trans (hb.mono HB.out.size)
    obtain ⟨hc2, _⟩ := bcell hb2
    have HBB2 := Lib.hid hb2
    clear hb hb2 hc1
    by_cases hm0 : metaFault ⟨mode, uid, gid, user, group, second, nano⟩ = 0
    · rw [hm0]
      have HM0 := Lib.hid hm0
      clear hm0
      have HTC := Lib.hid (PathCheck_any target w2 (HM.out.below HB2.out) HTZ.out)
      rw [HP0.out, HM0.out] at HF
      by_cases ht0 : target.size = 0
      · have he := empty_t ht0
        rcases hix0.out with hh | hh
        all_goals
          rw [hh] at hix HF
          generalize pathFault target = q at *
          go_wp2_with (first | (go_at_call 84; refine (IndexByte_any _ _ _).mono ?_; rintro e w' ⟨rfl, rfl⟩) | (go_at_call 82; refine HTC.out.mono ?_; rintro e w3 ⟨rfl, hb3⟩; replace hb3 := Lib.hid hb3))
          all_goals
            first
              | (exfalso; (try simp only [← List.length_eq_zero_iff, beq_iff_eq, beq_eq_false_iff_ne, bne_iff_ne, bne_eq_false_iff_eq, ne_eq, Bool.not_eq_true', Bool.not_eq_false', decide_eq_true_eq, decide_eq_false_iff_not] at *); omega)
              | (go_ret; exact ⟨ret_i (HF.out _ (by (try simp only [← List.length_eq_zero_iff, beq_iff_eq, beq_eq_false_iff_ne, bne_iff_ne, bne_eq_false_iff_eq, ne_eq, Bool.not_eq_true', Bool.not_eq_false', decide_eq_true_eq, decide_eq_false_iff_not] at *); unfold entFaultN; repeat (first | rw [if_pos (by omega)] | rw [if_neg (by omega)] | rw [if_pos rfl] | rw [if_neg (by decide)]))), HB2.out⟩)
              | (go_ret; exact ⟨ret_i (HF.out _ (by (try simp only [← List.length_eq_zero_iff, beq_iff_eq, beq_eq_false_iff_ne, bne_iff_ne, bne_eq_false_iff_eq, ne_eq, Bool.not_eq_true', Bool.not_eq_false', decide_eq_true_eq, decide_eq_false_iff_not] at *); unfold entFaultN; repeat (first | rw [if_pos (by omega)] | rw [if_neg (by omega)] | rw [if_pos rfl] | rw [if_neg (by decide)]))), HB2.out.trans (hb3.out.mono HB2.out.size)⟩)
      · have he := empty_f ht0
        rcases hix0.out with hh | hh
        all_goals
          rw [hh] at hix HF
          generalize pathFault target = q at *
          go_wp2_with (first | (go_at_call 84; refine (IndexByte_any _ _ _).mono ?_; rintro e w' ⟨rfl, rfl⟩) | (go_at_call 82; refine HTC.out.mono ?_; rintro e w3 ⟨rfl, hb3⟩; replace hb3 := Lib.hid hb3))
          all_goals
            first
              | (exfalso; (try simp only [← List.length_eq_zero_iff, beq_iff_eq, beq_eq_false_iff_ne, bne_iff_ne, bne_eq_false_iff_eq, ne_eq, Bool.not_eq_true', Bool.not_eq_false', decide_eq_true_eq, decide_eq_false_iff_not] at *); omega)
              | (go_ret; exact ⟨ret_i (HF.out _ (by (try simp only [← List.length_eq_zero_iff, beq_iff_eq, beq_eq_false_iff_ne, bne_iff_ne, bne_eq_false_iff_eq, ne_eq, Bool.not_eq_true', Bool.not_eq_false', decide_eq_true_eq, decide_eq_false_iff_not] at *); unfold entFaultN; repeat (first | rw [if_pos (by omega)] | rw [if_neg (by omega)] | rw [if_pos rfl] | rw [if_neg (by decide)]))), HB2.out⟩)
              | (go_ret; exact ⟨ret_i (HF.out _ (by (try simp only [← List.length_eq_zero_iff, beq_iff_eq, beq_eq_false_iff_ne, bne_iff_ne, bne_eq_false_iff_eq, ne_eq, Bool.not_eq_true', Bool.not_eq_false', decide_eq_true_eq, decide_eq_false_iff_not] at *); unfold entFaultN; repeat (first | rw [if_pos (by omega)] | rw [if_neg (by omega)] | rw [if_pos rfl] | rw [if_neg (by decide)]))), HB2.out.trans (hb3.out.mono HB2.out.size)⟩)
    · have HRR := Lib.hid (HF.out _ (show _ = metaFault ⟨mode, uid, gid, user, group, second, nano⟩ by unfold entFaultN; rw [if_neg (by rw [HP0.out]; simp), if_pos hm0]))
      have hne := hm0
      generalize metaFault ⟨mode, uid, gid, user, group, second, nano⟩ = m at *
      go_wp2
      go_ret
      exact ⟨ret_i HRR.out, HB2.out⟩
  · have HRR := Lib.hid (HF.out _ (show _ = pathFault path by unfold entFaultN; rw [if_pos hp0]))
    have hne := hp0
    generalize pathFault path = p at *
    go_wp2
    go_ret
    exact ⟨ret_i HRR.out, HB1.out⟩
end Go.Proofs.YtaffgndickdbiaaGreatDoor
