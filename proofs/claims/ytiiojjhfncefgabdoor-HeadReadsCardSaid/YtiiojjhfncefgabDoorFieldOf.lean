/-
  The reference of field.Read.
-/
import Derived.Test.YtiiojjhfncefgabDoorFieldRead
namespace Go.Proofs.YtiiojjhfncefgabDoor
set_option linter.unusedVariables false
open Go.Creel Go.RowKit
set_option maxRecDepth 100000 in
set_option maxHeartbeats 1000000 in
theorem FieldOf_any (s : ByteArray) (b : Bool) (w : World) (hs : s.size ≤ maxLen) :
    Calls Tryd.prog 36 #[.string s, .bool b] w fun e w' => e = .returned (.tuple #[.string (fieldOf s b).1, .int .i64 (fieldOf s b).2]) ∧ Below w.heap.size w w' := by
  have hs' := hs
  unfold maxLen at hs
  by_cases h : s.size < 1 ∨ 512 < s.size
  · have HF := Lib.hid (fieldOf_range (b := b) h)
    by_cases h0 : s.size = 0
    · have he := empty_t h0
      clear h h0
      go_enter Tryd.func36, Tryd.ntmps36
      go_wp2
      go_ret2
      exact ⟨ret_si HF.out, Below.refl _ _⟩
    · have he := empty_f h0
      have h1 : 512 < s.size := by omega
      clear h h0
      go_enter Tryd.func36, Tryd.ntmps36
      go_wp2
      go_ret2
      exact ⟨ret_si HF.out, Below.refl _ _⟩
  · have h1 : 1 ≤ s.size := by omega
    have h2 : s.size ≤ 512 := by omega
    have he := empty_f (a := s) (by omega)
    have HN := Lib.hid h
    clear h
    go_enter Tryd.func36, Tryd.ntmps36
    go_wp2
    go_loop [6] (fun i => ∃ k : Nat, k ≤ s.size ∧ i = .int .i64 k ∧ Hid (∀ j, j < k → byt s j ≠ 0)) (fun i => s.size - (intOf i).toNat)
    case atStart => exact ⟨0, by omega, rfl, fun j hj => absurd hj (by omega)⟩
    case round =>
      obtain ⟨k, hk, rfl, HD⟩ := hrel
      have hgo : (k < s.size ∧ byt s k ≠ 0) ∨ (k = s.size ∧ zpos s = k) ∨ (k < s.size ∧ byt s k = 0 ∧ zpos s = k) := by
        by_cases h1 : k < s.size
        · by_cases h2 : byt s k = 0
          · exact .inr (.inr ⟨h1, h2, (zpos_yes h1 h2 HD.out).1⟩)
          · exact .inl ⟨h1, h2⟩
        · obtain rfl : k = s.size := by omega
          exact .inr (.inl ⟨rfl, (zpos_no HD.out).1⟩)
      have hzr := fun w => zeros_any ((s.size : Int) - k) w (by omega) (by omega)
      have ez : ((s.size : Int) - k).toNat = s.size - k := by omega
      rw [ez] at hzr
      have HZ := Lib.hid hzr
      clear hzr ez
      have heq : allz (s.extract k s.size) ↔ s.extract k s.size = zerosS (s.size - k) := (allz_eq (by simp)).symm
      rcases hgo with ⟨hlt, hne⟩ | ⟨hke, hzp⟩ | ⟨hlt, hz, hzp⟩
      · have HB := Lib.hid (byt_get s k hlt)
        have hb' : s[k].toNat < 256 := UInt8.toNat_lt _
        have hq : (((s[k].toNat : Nat) : Int) != 0) = true := by rw [HB.out, bne_iff_ne]; omega
        have HNE := Lib.hid hne
        clear hne heq
        go_wp2
        go_round
        case rel =>
          refine ⟨k + 1, by omega, by go_num, fun j hj => ?_⟩
          by_cases e : j = k
          · rw [e]; exact HNE.out
          · exact HD.out j (by omega)
        case measure => simp [intOf]; omega
      · have hall : allz (s.extract k s.size) := by
          intro x hx
          rw [hke, extract_none] at hx
          cases hx
        have hks : ((k : Int) == (s.size : Int)) = true := by rw [beq_iff_eq]; omega
        have hnl : decide ((k : Int) < (s.size : Int)) = false := by rw [decide_eq_false_iff_not]; omega
        have hcmp := sne_f (heq.1 hall)
        cases b with
        | false =>
          have HF := Lib.hid (fieldOf_form (b := false) HN.out (.inl ⟨hzp.trans hke, rfl⟩))
          clear hzp hall heq hke
          go_wp2
          go_quiet ((go_at_call 41; exact quiet_same (HZ.out _)))
          go_wp2
          go_ret2
          exact ⟨ret_si HF.out, below_draws _ _ _⟩
        | true =>
          have HF := Lib.hid ((fieldOf_yes (b := true) HN.out (by rw [hzp]; exact fun h => h.elim (fun h => by cases h.2) (fun h => h hall))).trans (by rw [hzp]))
          clear hzp hall heq hke
          go_wp2
          go_quiet ((go_at_call 41; exact quiet_same (HZ.out _)))
          go_wp2
          go_ret2
          exact ⟨ret_si HF.out, below_draws _ _ _⟩
      · have HB := Lib.hid (byt_get s k hlt)
        have hb' : s[k].toNat < 256 := UInt8.toNat_lt _
        have hq : (((s[k].toNat : Nat) : Int) != 0) = false := by rw [HB.out, hz]; rfl
        have hks : ((k : Int) == (s.size : Int)) = false := by rw [beq_eq_false_iff_ne]; omega
        by_cases hall : allz (s.extract k s.size)
        · have hcmp := sne_f (heq.1 hall)
          have HF := Lib.hid ((fieldOf_yes (b := b) HN.out (by rw [hzp]; exact fun h => h.elim (fun h => by have := h.1; omega) (fun h => h hall))).trans (by rw [hzp]))
          clear hz hzp hall heq
          go_wp2
          go_quiet ((go_at_call 41; exact quiet_same (HZ.out _)))
          go_wp2
          go_ret2
          exact ⟨ret_si HF.out, below_draws _ _ _⟩
        · have hcmp := sne_t (fun e => hall (heq.2 e))
          have HF := Lib.hid (fieldOf_form (b := b) HN.out (.inr (by rw [hzp]; exact hall)))
          clear hz hzp hall heq
          go_wp2
          go_quiet ((go_at_call 41; exact quiet_same (HZ.out _)))
          go_wp2
          go_ret2
          exact ⟨ret_si HF.out, below_draws _ _ _⟩
end Go.Proofs.YtiiojjhfncefgabDoor
