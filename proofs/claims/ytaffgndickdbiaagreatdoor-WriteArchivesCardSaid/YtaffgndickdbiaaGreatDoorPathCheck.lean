/-
  path.Check and its reference.
-/
import Derived.Test.YtaffgndickdbiaaGreatDoorPieces
namespace Go.Creel
set_option linter.unusedVariables false
def badPart (p : ByteArray) : Bool := decide (p.size = 0) || decide (p = ofL [46]) || decide (p = ofL [46, 46])
def pathFault (s : ByteArray) : Int :=
  if s.size < 1 ∨ 400 < s.size then 1
  else if hasB s 0 = true then 3
  else if (partsS 47 s).any badPart = true then 9 else 0
theorem pathFault_size {s : ByteArray} (h : s.size < 1 ∨ 400 < s.size) : pathFault s = 1 := by unfold pathFault; rw [if_pos h]
theorem pathFault_form {s : ByteArray} (h : ¬ (s.size < 1 ∨ 400 < s.size)) (h2 : hasB s 0 = true) : pathFault s = 3 := by unfold pathFault; rw [if_neg h, if_pos h2]
theorem pathFault_part {s : ByteArray} (h : ¬ (s.size < 1 ∨ 400 < s.size)) (h2 : hasB s 0 = false) {k : Nat} (hk : k < (partsS 47 s).length) (hb : badPart (piece (partsS 47 s) k) = true) : pathFault s = 9 := by
  unfold pathFault
  rw [if_neg h, if_neg (by rw [h2]; simp), if_pos]
  rw [List.any_eq_true]
  exact ⟨_, List.getElem_mem hk, by rw [← piece_eq hk]; exact hb⟩
theorem pathFault_ok {s : ByteArray} (h : ¬ (s.size < 1 ∨ 400 < s.size)) (h2 : hasB s 0 = false) (hb : ∀ k, k < (partsS 47 s).length → badPart (piece (partsS 47 s) k) = false) : pathFault s = 0 := by
  unfold pathFault
  rw [if_neg h, if_neg (by rw [h2]; simp), if_neg]
  rw [Bool.not_eq_true, List.any_eq_false]
  intro x hx
  obtain ⟨k, hk, rfl⟩ := List.getElem_of_mem hx
  have := hb k hk
  rw [piece_eq hk] at this
  rw [this]; simp
/-- the tests of a part, as the walk spells them -/
theorem badPart_yes {p : ByteArray} (h : badPart p = true) : p.toList.isEmpty = true ∨ (p.toList.isEmpty = false ∧ (p.toList == (ofL [46]).toList) = true) ∨ (p.toList.isEmpty = false ∧ (p.toList == (ofL [46]).toList) = false ∧ (p.toList == (ofL [46, 46]).toList) = true) := by
  unfold badPart at h
  by_cases h0 : p.size = 0
  · exact .inl (empty_t h0)
  · right
    by_cases h1 : p = ofL [46]
    · exact .inl ⟨empty_f h0, seq_t h1⟩
    · right
      refine ⟨empty_f h0, seq_f h1, seq_t ?_⟩
      simpa [h0, h1] using h
theorem badPart_no {p : ByteArray} (h : badPart p = false) : p.toList.isEmpty = false ∧ (p.toList == (ofL [46]).toList) = false ∧ (p.toList == (ofL [46, 46]).toList) = false := by
  unfold badPart at h
  simp only [Bool.or_eq_false_iff, decide_eq_false_iff_not] at h
  exact ⟨empty_f h.1.1, seq_f h.1.2, seq_f h.2⟩
theorem toList_ofL (l : List UInt8) : (ofL l).toList = l := by rw [Lib.toList_data, ofL_data]
end Go.Creel
namespace Go.Proofs.YtaffgndickdbiaaGreatDoor
set_option linter.unusedVariables false
open Go.Creel Go.RowKit
set_option maxRecDepth 100000 in
set_option maxHeartbeats 2000000 in
theorem PathCheck_any (s : ByteArray) (w : World) (hM : MaxOk w) (hs : s.size ≤ maxLen) :
    Calls Tryz.prog 82 #[.string s] w fun e w' => e = .returned (.int .i64 (pathFault s)) ∧ Below w.heap.size w w' := by
  unfold maxLen at hs
  by_cases h : s.size < 1 ∨ 400 < s.size
  · have HF := Lib.hid (pathFault_size h)
    rcases h with h | h
    · go_enter Tryz.func82, Tryz.ntmps82
      go_wp2
      go_ret
      exact ⟨ret_i HF.out, Below.refl _ _⟩
    · go_enter Tryz.func82, Tryz.ntmps82
      go_wp2
      go_ret
      exact ⟨ret_i HF.out, Below.refl _ _⟩
  · have h1 : 1 ≤ s.size := by omega
    have h2 : s.size ≤ 400 := by omega
    have hix := idx_has s 0
    cases hh : hasB s 0 with
    | true =>
      have HF := Lib.hid (pathFault_form h hh)
      rw [hh] at hix
      clear h hh
      go_enter Tryz.func82, Tryz.ntmps82
      go_wp2_with (go_at_call 84; refine (IndexByte_any _ _ _).mono ?_; rintro e w' ⟨rfl, rfl⟩)
      go_ret
      exact ⟨ret_i HF.out, Below.refl _ _⟩
    | false =>
      rw [hh] at hix
      have HNO := Lib.hid (fun k => pathFault_part h hh (k := k))
      have HYES := Lib.hid (pathFault_ok h hh)
      have HM := Lib.hid hM
      clear h hh hM
      go_enter Tryz.func82, Tryz.ntmps82
      go_wp2_with (first | (go_at_call 84; refine (IndexByte_any _ _ _).mono ?_; rintro e w' ⟨rfl, rfl⟩) | (go_at_call 145; fail))
      refine (SplitSlash_any s _ HM.out (by omega)).mono ?_
      rintro e w1 ⟨v, rfl, ho, hb⟩
      have hlen : (partsS 47 s).length ≤ s.size + 1 := by
        have := partsL_length 47 s.data.toList
        unfold partsS
        rw [List.length_map, Lib.size_eq s]; exact this
      have hne : 0 < (partsS 47 s).length := by
        unfold partsS
        rw [List.length_map]; exact List.length_pos_iff.2 (partsL_ne _ _)
      generalize partsS 47 s = P at *
      have hform := ho.form
      rcases hform with ⟨_, e0⟩ | ⟨g, cap, hv, hgB, hgw, hcap, hcapm⟩
      · rw [e0] at hne; simp at hne
      · subst hv
        have HO := Lib.hid ho
        have HB := Lib.hid hb
        clear ho hb hne hgB hgw
        go_wp2
        go_loop [4, 19] (fun _ i => ∃ k : Nat, k ≤ P.length ∧ i = .int .i64 k ∧ Hid (∀ j, j < k → badPart (piece P j) = false)) (fun _ i => P.length - (intOf i).toNat)
        case atStart => exact ⟨0, by omega, rfl, fun j hj => absurd hj (by omega)⟩
        case round =>
          obtain ⟨k, hk, rfl, HD⟩ := hrel
          by_cases hlt : k < P.length
          · have hc := HO.out.cell hlt
            cases hbp : badPart (piece P k) with
            | true =>
              have HF := Lib.hid (HNO.out k hlt hbp)
              have hcase := badPart_yes hbp
              clear hbp
              generalize piece P k = p at *
              rw [toList_ofL, toList_ofL] at hcase
              rcases hcase with e1 | ⟨e1, e2⟩ | ⟨e1, e2, e3⟩
              all_goals
                go_wp2
                go_ret
                exact ⟨ret_i HF.out, HB.out⟩
            | false =>
              obtain ⟨e1, e2, e3⟩ := badPart_no hbp
              rw [toList_ofL] at e2 e3
              have HBP := Lib.hid hbp
              clear hbp
              generalize hp : piece P k = p at *
              have HP := Lib.hid hp
              clear hp
              go_wp2
              go_round
              case rel =>
                refine ⟨k + 1, by omega, by go_num, fun j hj => ?_⟩
                by_cases e : j = k
                · rw [e, HP.out]; exact HBP.out
                · exact HD.out j (by omega)
              case measure => simp [intOf]; omega
          · obtain rfl : k = P.length := by omega
            have HF := Lib.hid (HYES.out HD.out)
            go_wp2
            go_ret
            exact ⟨ret_i HF.out, HB.out⟩
end Go.Proofs.YtaffgndickdbiaaGreatDoor
