/-
  The reference of path.Check.
-/
import Derived.Test.YtaffgndickdbiaaGreatDoorPathCheck
namespace Go.Proofs.YtaffgndickdbiaaGreatDoor
set_option linter.unusedVariables false
open Go.Creel Go.RowKit
set_option maxRecDepth 100000 in
set_option maxHeartbeats 2000000 in
theorem PathFault_any (s : ByteArray) (w : World) (hs : s.size ≤ maxLen) :
    Calls Tryz.prog 154 #[.string s] w fun e w' => e = .returned (.int .i64 (pathFault s)) ∧ Below w.heap.size w w' := by
  unfold maxLen at hs
  by_cases h : s.size < 1 ∨ 400 < s.size
  · have HF := Lib.hid (pathFault_size h)
    by_cases h0 : s.size = 0
    · have he := empty_t h0
      clear h h0
      go_enter Tryz.func154, Tryz.ntmps154
      go_wp2
      go_ret
      exact ⟨ret_i HF.out, Below.refl _ _⟩
    · have he := empty_f h0
      have h1 : 400 < s.size := by omega
      clear h h0
      go_enter Tryz.func154, Tryz.ntmps154
      go_wp2
      go_ret
      exact ⟨ret_i HF.out, Below.refl _ _⟩
  · have h1 : s.size ≤ 400 := by omega
    have he := empty_f (show ¬ s.size = 0 by omega)
    cases hh : hasB s 0 with
    | true =>
      have HF := Lib.hid (pathFault_form h hh)
      have HH := Lib.hid hh
      clear h hh
      go_enter Tryz.func154, Tryz.ntmps154
      go_wp2_with (go_at_call 105; refine (has_any s 0 0 rfl _ (by unfold maxLen; omega)).mono ?_; rintro e w' ⟨rfl, rfl⟩; rw [HH.out])
      go_ret
      exact ⟨ret_i HF.out, Below.refl _ _⟩
    | false =>
      have HNO := Lib.hid (fun k => pathFault_part h hh (k := k))
      have HYES := Lib.hid (pathFault_ok h hh)
      have HH := Lib.hid hh
      clear h hh
      go_enter Tryz.func154, Tryz.ntmps154
      go_wp2_with (first | (go_at_call 105; refine (has_any s 0 0 rfl _ (by unfold maxLen; omega)).mono ?_; rintro e w' ⟨rfl, rfl⟩; rw [HH.out]) | (go_at_call 164; fail))
      refine (parts_any s 47 _ rfl _ (by omega)).mono ?_
      rintro e w1 ⟨v, rfl, ho, hb⟩
      have hlen : (partsS 47 s).length ≤ s.size + 1 := by
        have := partsL_length 47 s.data.toList
        unfold partsS
        rw [List.length_map, Lib.size_eq s]; exact this
      have hne : 0 < (partsS 47 s).length := by
        unfold partsS
        rw [List.length_map]; exact List.length_pos_iff.2 (partsL_ne _ _)
      generalize partsS 47 s = P at *
      have hform := ho.form
      rcases hform with ⟨_, e0⟩ | ⟨g, cap, hv, hgB, hgw, hcap, hcapm⟩
      · rw [e0] at hne; simp at hne
      · subst hv
        have HO := Lib.hid ho
        have HB := Lib.hid hb
        clear ho hb hne hgB hgw
        go_wp2
        go_loop [4, 17] (fun _ i => ∃ k : Nat, k ≤ P.length ∧ i = .int .i64 k ∧ Hid (∀ j, j < k → badPart (piece P j) = false)) (fun _ i => P.length - (intOf i).toNat)
        case atStart => exact ⟨0, by omega, rfl, fun j hj => absurd hj (by omega)⟩
        case round =>
          obtain ⟨k, hk, rfl, HD⟩ := hrel
          by_cases hlt : k < P.length
          · have hc := HO.out.cell hlt
            cases hbp : badPart (piece P k) with
            | true =>
              have HF := Lib.hid (HNO.out k hlt hbp)
              have hcase := badPart_yes hbp
              clear hbp
              generalize piece P k = p at *
              rw [toList_ofL, toList_ofL] at hcase
              rcases hcase with e1 | ⟨e1, e2⟩ | ⟨e1, e2, e3⟩
              all_goals
                go_wp2
                go_ret
                exact ⟨ret_i HF.out, HB.out⟩
            | false =>
              obtain ⟨e1, e2, e3⟩ := badPart_no hbp
              rw [toList_ofL] at e2 e3
              have HBP := Lib.hid hbp
              clear hbp
              generalize hp : piece P k = p at *
              have HP := Lib.hid hp
              clear hp
              go_wp2
              go_round
              case rel =>
                refine ⟨k + 1, by omega, by go_num, fun j hj => ?_⟩
                by_cases e : j = k
                · rw [e, HP.out]; exact HBP.out
                · exact HD.out j (by omega)
              case measure => simp [intOf]; omega
          · obtain rfl : k = P.length := by omega
            have HF := Lib.hid (HYES.out HD.out)
            go_wp2
            go_ret
            exact ⟨ret_i HF.out, HB.out⟩
end Go.Proofs.YtaffgndickdbiaaGreatDoor
