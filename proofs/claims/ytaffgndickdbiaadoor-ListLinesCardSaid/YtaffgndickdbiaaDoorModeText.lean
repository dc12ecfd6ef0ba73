/-
  meta.Text.
-/
import Derived.Test.YtaffgndickdbiaaDoorMode
import Derived.Deep.Cut
namespace Go.Proofs.YtaffgndickdbiaaDoor
set_option linter.unusedVariables false
set_option linter.unusedSimpArgs false
open Go.Creel Go.RowKit
set_option maxRecDepth 100000 in
set_option maxHeartbeats 2000000 in
theorem ModeText_in (m : Nat) (w : World) (h1 : m ≤ 4095) :
    Calls Tryd.prog 52 #[.int .i64 m] w fun e w' => e = .returned (.tuple #[.string (ofL (modeL m)), .int .i64 0]) ∧ Below w.heap.size w w' := by
  have kc := fun (w : World) (C : Array Value) (n c : Nat) => Lib.run_convert_bytes_const (P := Tryd.prog) w 38 5 C n c Tryd.underlying38 Tryd.underlying5
  have i0 : ∀ w, (Instr.index 111 (.agg #[.int .u8 116, .int .u8 115, .int .u8 115]) (.int .i64 0)).run Tryd.prog w = .ok (.int .u8 116) w := fun _ => by kernel_rfl
  have i1 : ∀ w, (Instr.index 111 (.agg #[.int .u8 116, .int .u8 115, .int .u8 115]) (.int .i64 1)).run Tryd.prog w = .ok (.int .u8 115) w := fun _ => by kernel_rfl
  have i2 : ∀ w, (Instr.index 111 (.agg #[.int .u8 116, .int .u8 115, .int .u8 115]) (.int .i64 2)).run Tryd.prog w = .ok (.int .u8 115) w := fun _ => by kernel_rfl
  go_enter Tryd.func52, Tryd.ntmps52
  go_wp2_with fail
  go_loopw [5, 19] (fun _ i wr => ∃ k : Nat, k ≤ 9 ∧ i = .int .i64 k ∧ RowF 5 wr w.heap.size (permK m k) ∧ Hid (Below w.heap.size w wr)) (fun _ i _ => 9 - (intOf i).toNat)
  case atStart => exact ⟨0, by omega, rfl, heap_alloc_new w _, Lib.hid ⟨rfl, rfl, rfl, by simp, fun i hi => heap_alloc_old w _ hi⟩⟩
  case round =>
    obtain ⟨k, hk, rfl, HO, HB⟩ := hrel
    have ho := HO
    replace HO := Lib.hid HO
    have HLn := Lib.hid (permK_len m k)
    by_cases hlt : k < 9
    · have hf := ho.free (j := k) (by rw [HLn.out]; exact hlt)
      have hc := ho.cell (j := k) (by rw [HLn.out]; exact hlt)
      clear ho
      have hb := bit_test m (8 - k)
      by_cases hbit : m / 2 ^ (8 - k) % 2 = 0
      · rw [decide_eq_true hbit] at hb
        have HS := Lib.hid (permK_no hlt hbit)
        clear hbit
        go_wp2
        go_roundw
        case rel => exact ⟨k + 1, by omega, by go_num, by rw [HS.out]; exact HO.out.store k 45 rfl, Lib.hid (HB.out.setCell (Nat.le_refl _) _)⟩
        case measure => simp [intOf]; omega
      · rw [decide_eq_false hbit] at hb
        have HS := Lib.hid (permK_yes hbit)
        clear hbit
        go_wp2
        go_roundw
        case rel => exact ⟨k + 1, by omega, by go_num, by rw [HS.out]; exact HO.out, HB⟩
        case measure => simp [intOf]; omega
    · obtain rfl : k = 9 := by omega
      clear hlt hk HLn
      have HO1 : Hid (RowF 5 wr w.heap.size (modeK m 0)) := Lib.hid (by rw [← permK_end]; exact HO.out)
      clear ho HO
      go_wp2_with fail
      obtain ⟨wo, rfl⟩ : ∃ wo : World, wo = wr := ⟨_, rfl⟩
      go_loopw [6, 7, 8, 33] (fun _ _ _ i wr => ∃ k : Nat, k ≤ 3 ∧ i = .int .i64 k ∧ RowF 5 wr w.heap.size (modeK m k) ∧ Hid (Below w.heap.size w wr)) (fun _ _ _ i _ => 3 - (intOf i).toNat)
      case atStart => exact ⟨0, by omega, rfl, HO1.out, HB⟩
      case round =>
        obtain ⟨k, hk, rfl, HO, HB2⟩ := hrel
        have ho := HO
        replace HO := Lib.hid HO
        by_cases hlt : k < 3
        · have hb := bit_test m (9 + k)
          have hlen := modeK_len m k
          have hf := ho.free (j := 8 - 3 * k) (by rw [hlen]; omega)
          have hc := ho.cell (j := 8 - 3 * k) (by rw [hlen]; omega)
          rw [modeK_at hlt] at hc
          clear ho hlen
          by_cases hbit : m / 2 ^ (9 + k) % 2 = 0
          · rw [decide_eq_true hbit] at hb
            have HS := Lib.hid (modeK_skip hlt hbit)
            clear hbit hf hc
            rcases (show k = 0 ∨ k = 1 ∨ k = 2 by omega) with rfl | rfl | rfl
            · simp only [Nat.reduceAdd, Nat.reduceMul, Nat.reduceSub, Int.reducePow] at hb HS
              clear hlt hk
              go_wp2
              go_roundw
              case rel => exact ⟨1, by omega, by go_num, by rw [HS.out]; exact HO.out, HB2⟩
              case measure => simp [intOf]
            · simp only [Nat.reduceAdd, Nat.reduceMul, Nat.reduceSub, Int.reducePow] at hb HS
              clear hlt hk
              go_wp2
              go_roundw
              case rel => exact ⟨2, by omega, by go_num, by rw [HS.out]; exact HO.out, HB2⟩
              case measure => simp [intOf]
            · simp only [Nat.reduceAdd, Nat.reduceMul, Nat.reduceSub, Int.reducePow] at hb HS
              clear hlt hk
              go_wp2
              go_roundw
              case rel => exact ⟨3, by omega, by go_num, by rw [HS.out]; exact HO.out, HB2⟩
              case measure => simp [intOf]
          · rw [decide_eq_false hbit] at hb
            have HS := Lib.hid (modeK_put hlt hbit)
            clear hbit
            by_cases h45 : permC m (8 - 3 * k) = 45
            · have HC := Lib.hid h45
              have hd : (((permC m (8 - 3 * k)).toNat : Int) == 45) = true := by rw [h45]; rfl
              clear h45
              rcases (show k = 0 ∨ k = 1 ∨ k = 2 by omega) with rfl | rfl | rfl
              · simp only [Nat.reduceAdd, Nat.reduceMul, Nat.reduceSub, Int.reducePow] at hb hf hc hd HS HC
                clear hlt hk
                go_wp2
                go_roundw
                case rel => exact ⟨1, by omega, by go_num, by rw [HS.out]; exact HO.out.store _ _ (by unfold signC; rw [if_pos HC.out]; rfl), Lib.hid (HB2.out.setCell (Nat.le_refl _) _)⟩
                case measure => simp [intOf]
              · simp only [Nat.reduceAdd, Nat.reduceMul, Nat.reduceSub, Int.reducePow] at hb hf hc hd HS HC
                clear hlt hk
                go_wp2
                go_roundw
                case rel => exact ⟨2, by omega, by go_num, by rw [HS.out]; exact HO.out.store _ _ (by unfold signC; rw [if_pos HC.out]; rfl), Lib.hid (HB2.out.setCell (Nat.le_refl _) _)⟩
                case measure => simp [intOf]
              · simp only [Nat.reduceAdd, Nat.reduceMul, Nat.reduceSub, Int.reducePow] at hb hf hc hd HS HC
                clear hlt hk
                go_wp2
                go_roundw
                case rel => exact ⟨3, by omega, by go_num, by rw [HS.out]; exact HO.out.store _ _ (by unfold signC; rw [if_pos HC.out]; rfl), Lib.hid (HB2.out.setCell (Nat.le_refl _) _)⟩
                case measure => simp [intOf]
            · have HC := Lib.hid h45
              have hd : (((permC m (8 - 3 * k)).toNat : Int) == 45) = false := by
                rw [beq_eq_false_iff_ne]
                intro e
                exact h45 (UInt8.toNat_inj.1 (by simpa using (show (permC m (8 - 3 * k)).toNat = 45 by omega)))
              clear h45
              rcases (show k = 0 ∨ k = 1 ∨ k = 2 by omega) with rfl | rfl | rfl
              · simp only [Nat.reduceAdd, Nat.reduceMul, Nat.reduceSub, Int.reducePow] at hb hf hc hd HS HC
                clear hlt hk
                go_wp2
                go_roundw
                case rel => exact ⟨1, by omega, by go_num, by rw [HS.out]; exact HO.out.store _ _ (by unfold signC; rw [if_neg HC.out]; rfl), Lib.hid (HB2.out.setCell (Nat.le_refl _) _)⟩
                case measure => simp [intOf]
              · simp only [Nat.reduceAdd, Nat.reduceMul, Nat.reduceSub, Int.reducePow] at hb hf hc hd HS HC
                clear hlt hk
                go_wp2
                go_roundw
                case rel => exact ⟨2, by omega, by go_num, by rw [HS.out]; exact HO.out.store _ _ (by unfold signC; rw [if_neg HC.out]; rfl), Lib.hid (HB2.out.setCell (Nat.le_refl _) _)⟩
                case measure => simp [intOf]
              · simp only [Nat.reduceAdd, Nat.reduceMul, Nat.reduceSub, Int.reducePow] at hb hf hc hd HS HC
                clear hlt hk
                go_wp2
                go_roundw
                case rel => exact ⟨3, by omega, by go_num, by rw [HS.out]; exact HO.out.store _ _ (by unfold signC; rw [if_neg HC.out]; rfl), Lib.hid (HB2.out.setCell (Nat.le_refl _) _)⟩
                case measure => simp [intOf]
        · obtain rfl : k = 3 := by omega
          have hcv := ho.string (cap := 9) 38 5 9 Tryd.underlying38 Tryd.underlying5 Tryd.underlying9
          rw [modeK_len, modeK_end] at hcv
          clear ho hlt hk
          go_wp2
          go_ret2
          exact ⟨rfl, HB2.out⟩
set_option maxRecDepth 100000 in
theorem ModeText_any (m : Int) (w : World) (hm : i64 m) :
    Calls Tryd.prog 52 #[.int .i64 m] w fun e w' => e = .returned (.tuple #[.string (modeText m).1, .int .i64 (modeText m).2]) ∧ Below w.heap.size w w' := by
  unfold i64 at hm
  by_cases h : m < 0 ∨ 4095 < m
  · have HF := Lib.hid (show modeText m = (ByteArray.empty, 4) by unfold modeText; rw [if_pos h])
    rcases h with h | h
    all_goals
      go_enter Tryd.func52, Tryd.ntmps52
      go_wp2
      go_ret2
      exact ⟨ret_si HF.out, Below.refl _ _⟩
  · obtain ⟨n, rfl⟩ : ∃ n : Nat, m = n := ⟨m.toNat, by omega⟩
    refine (ModeText_in n w (by omega)).mono ?_
    rintro e w' ⟨rfl, hb⟩
    exact ⟨ret_si (by unfold modeText; rw [if_neg h, Int.toNat_natCast]), hb⟩
end Go.Proofs.YtaffgndickdbiaaDoor
