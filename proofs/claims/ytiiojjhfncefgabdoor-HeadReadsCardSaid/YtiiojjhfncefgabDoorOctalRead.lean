/-
  octal.Read and its reference.
-/
import Derived.Test.YtiiojjhfncefgabDoorOctalMost
namespace Go.Creel
set_option linter.unusedVariables false
def odig (s : ByteArray) (k : Nat) : Prop := 48 ≤ byt s k ∧ byt s k ≤ 55
/-- the number of the first k digits -/
def oval (s : ByteArray) : Nat → Nat
  | 0 => 0
  | k + 1 => 8 * oval s k + (byt s k - 48)
open Classical in
noncomputable def octOf (s : ByteArray) : Int × Int :=
  if 2 ≤ s.size ∧ s.size ≤ 12 then
    if (∀ k, k < s.size - 1 → odig s k) ∧ byt s (s.size - 1) = 0 then ((oval s (s.size - 1) : Int), 0) else (0, 3)
  else (0, 4)
theorem oval_lt (s : ByteArray) (k : Nat) (h : ∀ i, i < k → odig s i) : oval s k < 8 ^ k := by
  induction k with
  | zero => simp [oval]
  | succ k ih =>
    have h1 := ih (fun i hi => h i (by omega))
    have h2 := h k (by omega)
    unfold odig at h2
    simp only [oval, Nat.pow_succ]; omega
theorem octOf_no {s : ByteArray} {k : Nat} (h1 : 2 ≤ s.size) (h2 : s.size ≤ 12) (hk : k < s.size - 1) (h : ¬ odig s k) : octOf s = (0, 3) := by
  unfold octOf; rw [if_pos ⟨h1, h2⟩, if_neg (fun hh => h (hh.1 k hk))]
theorem octOf_last {s : ByteArray} (h1 : 2 ≤ s.size) (h2 : s.size ≤ 12) (h : byt s (s.size - 1) ≠ 0) : octOf s = (0, 3) := by
  unfold octOf; rw [if_pos ⟨h1, h2⟩, if_neg (fun hh => h hh.2)]
theorem octOf_yes {s : ByteArray} (h1 : 2 ≤ s.size) (h2 : s.size ≤ 12) (hd : ∀ k, k < s.size - 1 → odig s k) (h : byt s (s.size - 1) = 0) : octOf s = ((oval s (s.size - 1) : Int), 0) := by
  unfold octOf; rw [if_pos ⟨h1, h2⟩, if_pos ⟨hd, h⟩]
theorem octOf_size {s : ByteArray} (h : ¬ (2 ≤ s.size ∧ s.size ≤ 12)) : octOf s = (0, 4) := by
  unfold octOf; rw [if_neg h]
theorem pow8_le {k : Nat} (h : k ≤ 11) : 8 ^ k ≤ 8589934592 := by
  have : 8 ^ k ≤ 8 ^ 11 := Nat.pow_le_pow_right (by decide) h
  have e : (8 : Nat) ^ 11 = 8589934592 := by decide
  omega
/-- the reference's sum, one digit more -/
theorem rsum_step (s : ByteArray) (k j : Nat) : oval s k * 8 ^ (j + 1) + (byt s k - 48) * 8 ^ j = oval s (k + 1) * 8 ^ j := by
  simp only [oval, Nat.pow_succ, Nat.add_mul]
  have : oval s k * (8 ^ j * 8) = 8 * oval s k * 8 ^ j := by rw [Nat.mul_comm (8 ^ j) 8, ← Nat.mul_assoc, Nat.mul_comm (oval s k) 8]
  omega
end Go.Creel
namespace Go.Proofs.YtiiojjhfncefgabDoor
set_option linter.unusedVariables false
open Go.Creel Go.RowKit
set_option maxRecDepth 100000 in
set_option maxHeartbeats 1000000 in
theorem OctRead_any (s : ByteArray) (w : World) (hs : s.size ≤ maxLen) :
    Calls Tryd.prog 24 #[.string s] w fun e w' => e = .returned (.tuple #[.int .i64 (octOf s).1, .int .i64 (octOf s).2]) ∧ w = w' := by
  unfold maxLen at hs
  by_cases h : 2 ≤ s.size ∧ s.size ≤ 12
  · obtain ⟨h1, h2⟩ := h
    have hM := octMost_in (W := s.size) h1 h2
    go_enter Tryd.func24, Tryd.ntmps24
    go_wp2_with fail
    refine (Most_any _ _).mono ?_
    rintro e w' ⟨rfl, rfl⟩
    rw [hM]
    clear hM
    go_wp2
    go_loop [6, 7, 20] (fun n _ i => ∃ k : Nat, k ≤ s.size - 1 ∧ i = .int .i64 k ∧ n = .int .i64 (oval s k) ∧ Hid (∀ j, j < k → odig s j)) (fun _ _ i => s.size - (intOf i).toNat)
    case atStart => exact ⟨0, by omega, rfl, rfl, fun j hj => absurd hj (by omega)⟩
    case round =>
      obtain ⟨k, hk, rfl, rfl, HD⟩ := hrel
      have hv := oval_lt s k HD.out
      have hp := pow8_le (k := k) (by omega)
      have hv2 : oval s k ≤ 8589934592 := by omega
      clear hv hp
      by_cases hlt : k < s.size - 1
      · have hks : k < s.size := by omega
        have hb' : s[k].toNat < 256 := UInt8.toNat_lt _
        have HB := Lib.hid (byt_get s k hks)
        by_cases hd : odig s k
        · have hd1 : 48 ≤ s[k].toNat := by rw [HB.out]; exact hd.1
          have hd2 : s[k].toNat ≤ 55 := by rw [HB.out]; exact hd.2
          have HN := Lib.hid (show oval s (k + 1) = 8 * oval s k + (byt s k - 48) from rfl)
          have HD1 := Lib.hid hd
          clear hd
          go_wp2
          go_round
          case rel =>
            refine ⟨k + 1, by omega, by go_num, ?_, fun j hj => ?_⟩
            · have e := HB.out
              rw [HN.out, ← e]; congr 1; omega
            · by_cases e : j = k
              · rw [e]; exact HD1.out
              · exact HD.out j (by omega)
          case measure => simp [intOf]; omega
        · have HF := Lib.hid (octOf_no h1 h2 hlt hd)
          by_cases hd1 : s[k].toNat < 48
          · clear hd
            go_wp2
            go_ret2
            exact ⟨ret_ii HF.out, rfl⟩
          · have hd2 : 55 < s[k].toNat := by
              rw [HB.out] at hd1 ⊢
              unfold odig at hd; omega
            clear hd
            go_wp2
            go_ret2
            exact ⟨ret_ii HF.out, rfl⟩
      · obtain rfl : k = s.size - 1 := by omega
        have hks : s.size - 1 < s.size := by omega
        have HB := Lib.hid (byt_get s _ hks)
        have hb' : s[s.size - 1].toNat < 256 := UInt8.toNat_lt _
        by_cases hz : byt s (s.size - 1) = 0
        · have HF := Lib.hid (octOf_yes h1 h2 HD.out hz)
          have hz' : s[s.size - 1].toNat = 0 := by rw [HB.out]; exact hz
          have hz3 : (((s[s.size - 1].toNat : Nat) : Int) != 0) = false := by simp [hz']
          clear hz hz'
          go_wp2
          go_ret2
          exact ⟨ret_ii HF.out, rfl⟩
        · have HF := Lib.hid (octOf_last h1 h2 hz)
          have hz' : s[s.size - 1].toNat ≠ 0 := by rw [HB.out]; exact hz
          have hz3 : (((s[s.size - 1].toNat : Nat) : Int) != 0) = true := by rw [bne_iff_ne]; omega
          clear hz hz'
          go_wp2
          go_ret2
          exact ⟨ret_ii HF.out, rfl⟩
  · have HF := Lib.hid (octOf_size h)
    have hM : octMost (s.size : Int) = (0, 4) := by simp only [octMost]; rw [if_neg (by omega)]
    clear h
    go_enter Tryd.func24, Tryd.ntmps24
    go_wp2_with fail
    refine (Most_any _ _).mono ?_
    rintro e w' ⟨rfl, rfl⟩
    rw [hM]
    clear hM
    go_wp2
    go_ret2
    exact ⟨ret_ii HF.out, rfl⟩
set_option maxRecDepth 100000 in
set_option maxHeartbeats 1000000 in
theorem OctalOf_any (s : ByteArray) (w : World) (hs : s.size ≤ maxLen) :
    Calls Tryd.prog 38 #[.string s] w fun e w' => e = .returned (.tuple #[.int .i64 (octOf s).1, .int .i64 (octOf s).2]) ∧ Below w.heap.size w w' := by
  unfold maxLen at hs
  by_cases h : 2 ≤ s.size ∧ s.size ≤ 12
  · obtain ⟨h1, h2⟩ := h
    go_enter Tryd.func38, Tryd.ntmps38
    go_wp2
    go_loopw [4, 5] (fun n i wr => ∃ k : Nat, k ≤ s.size - 1 ∧ i = .int .i64 k ∧ n = .int .i64 ((oval s k * 8 ^ (s.size - 1 - k) : Nat) : Int) ∧ Hid (∀ j, j < k → odig s j) ∧ Below w.heap.size w wr) (fun _ i _ => s.size - (intOf i).toNat)
    case atStart => exact ⟨0, by omega, rfl, by simp [oval], fun j hj => absurd hj (by omega), Below.refl _ _⟩
    case round =>
      obtain ⟨k, hk, rfl, rfl, HD, hB⟩ := hrel
      have HBW := Lib.hid hB
      clear hB
      have hv := oval_lt s k HD.out
      have hp := pow8_le (k := s.size - 1) (by omega)
      have hv2 : oval s k * 8 ^ (s.size - 1 - k) ≤ 8589934592 := by
        have e : 8 ^ k * 8 ^ (s.size - 1 - k) = 8 ^ (s.size - 1) := by rw [← Nat.pow_add]; congr 1; omega
        have := Nat.mul_le_mul_right (8 ^ (s.size - 1 - k)) (Nat.le_of_lt hv)
        omega
      clear hv hp
      by_cases hlt : k < s.size - 1
      · have hks : k < s.size := by omega
        have hb' : s[k].toNat < 256 := UInt8.toNat_lt _
        have HB := Lib.hid (byt_get s k hks)
        by_cases hd : odig s k
        · have hd1 : 48 ≤ s[k].toNat := by rw [HB.out]; exact hd.1
          have hd2 : s[k].toNat ≤ 55 := by rw [HB.out]; exact hd.2
          have e1 : s.size - 1 - k = (s.size - 2 - k) + 1 := by omega
          have HN := Lib.hid (rsum_step s k (s.size - 2 - k))
          rw [e1] at hv2 ⊢
          have hp1 := pow8_le (k := s.size - 2 - k) (by omega)
          have e2 : s.size - 1 - (k + 1) = s.size - 2 - k := by omega
          have HE2 := Lib.hid e2
          have HD1 := Lib.hid hd
          clear hd e1 e2
          generalize hX : oval s k * 8 ^ (s.size - 2 - k + 1) = X at *
          have hm : (s[k].toNat - 48) * 8 ^ (s.size - 2 - k) ≤ 7 * 8 ^ (s.size - 2 - k) := Nat.mul_le_mul_right _ (by omega)
          have hm0 : ((s[k].toNat : Int) - 48) * ((8 ^ (s.size - 2 - k) : Nat) : Int) = (((s[k].toNat - 48) * 8 ^ (s.size - 2 - k) : Nat) : Int) := by
            rw [Int.natCast_mul]; congr 1; omega
          have HX := Lib.hid hX
          clear hX
          have ha : (s.size : Int) - 2 - (k : Int) = ((s.size - 2 - k : Nat) : Int) := by omega
          have hp0 : 0 ≤ (8 : Nat) ^ (s.size - 2 - k) := Nat.zero_le _
          have hpw := fun (w : World) => power_any (s.size - 2 - k) w (by omega)
          rw [← ha] at hpw
          have HPW := Lib.hid hpw
          clear ha hpw
          generalize hY : 8 ^ (s.size - 2 - k) = Y at *
          have HY := Lib.hid hY
          clear hY
          go_wp2_with fail
          go_quiet ((go_at_call 70; exact quiet_same (HPW.out _)))
          go_wp2
          go_roundw
          case rel =>
            refine ⟨k + 1, by omega, by go_num, ?_, fun j hj => ?_, HBW.out.trans (below_draws _ _ _)⟩
            · have e := HB.out
              have h9 := HN.out
              rw [HE2.out, HY.out, ← h9, ← e, Int.natCast_add, Int.natCast_mul]
            · by_cases e : j = k
              · rw [e]; exact HD1.out
              · exact HD.out j (by omega)
          case measure => simp [intOf]; omega
        · have HF := Lib.hid (octOf_no h1 h2 hlt hd)
          by_cases hd1 : s[k].toNat < 48
          · clear hd
            go_wp2
            go_ret2
            exact ⟨ret_ii HF.out, HBW.out⟩
          · have hd2 : 55 < s[k].toNat := by
              rw [HB.out] at hd1 ⊢
              unfold odig at hd; omega
            clear hd
            go_wp2
            go_ret2
            exact ⟨ret_ii HF.out, HBW.out⟩
      · obtain rfl : k = s.size - 1 := by omega
        have hks : s.size - 1 < s.size := by omega
        have HB := Lib.hid (byt_get s _ hks)
        have hb' : s[s.size - 1].toNat < 256 := UInt8.toNat_lt _
        have HV : Hid (oval s (s.size - 1) * 8 ^ (s.size - 1 - (s.size - 1)) = oval s (s.size - 1)) := by show _ = _; simp
        by_cases hz : byt s (s.size - 1) = 0
        · have HF := Lib.hid (octOf_yes h1 h2 HD.out hz)
          have hz' : s[s.size - 1].toNat = 0 := by rw [HB.out]; exact hz
          have hz3 : (((s[s.size - 1].toNat : Nat) : Int) != 0) = false := by simp [hz']
          clear hz hz'
          rw [HV.out]
          go_wp2
          go_ret2
          exact ⟨ret_ii HF.out, HBW.out⟩
        · have HF := Lib.hid (octOf_last h1 h2 hz)
          have hz' : s[s.size - 1].toNat ≠ 0 := by rw [HB.out]; exact hz
          have hz3 : (((s[s.size - 1].toNat : Nat) : Int) != 0) = true := by rw [bne_iff_ne]; omega
          clear hz hz'
          rw [HV.out]
          go_wp2
          go_ret2
          exact ⟨ret_ii HF.out, HBW.out⟩
  · have HF := Lib.hid (octOf_size h)
    by_cases h1 : s.size < 2
    · clear h
      go_enter Tryd.func38, Tryd.ntmps38
      go_wp2
      go_ret2
      exact ⟨ret_ii HF.out, Below.refl _ _⟩
    · have h2 : 12 < s.size := by omega
      clear h
      go_enter Tryd.func38, Tryd.ntmps38
      go_wp2
      go_ret2
      exact ⟨ret_ii HF.out, Below.refl _ _⟩
end Go.Proofs.YtiiojjhfncefgabDoor
