/-
  Texts: MetaCheck, StampSpec.
-/
import Derived.Test.YtaffgndickdbiaaGreatDoorR01
import Derived.Lib.ItoaNum
import Derived.Lib.TrimByte
set_option linter.unusedVariables false
set_option linter.unusedSimpArgs false
set_option linter.unusedSectionVars false
namespace Go.Creel
def timeFault (s n : Int) : Int := if s < -1099511627776 ∨ 1099511627776 < s ∨ n < 0 ∨ 999999999 < n then 4 else 0
def metaFault (m : Meta) : Int :=
  if m.mode < 0 ∨ 4095 < m.mode ∨ m.uid < 0 ∨ 1125899906842624 < m.uid ∨ m.gid < 0 ∨ 1125899906842624 < m.gid then 4
  else if 60 < m.user.size ∨ 60 < m.group.size then 1
  else if hasB m.user 0 = true ∨ hasB m.group 0 = true then 3
  else timeFault m.second m.nano
theorem hasB_append (a b : ByteArray) (c : UInt8) : hasB (a ++ b) c = (hasB a c || hasB b c) := by
  unfold hasB
  have : (a ++ b).data.toList = a.data.toList ++ b.data.toList := by simp
  rw [this, List.any_append]
abbrev Meta.val (m : Meta) : Value := .agg #[.int .i64 m.mode, .int .i64 m.uid, .int .i64 m.gid, .string m.user, .string m.group, .int .i64 m.second, .int .i64 m.nano]
theorem metaFault_range {m : Meta} (h : m.mode < 0 ∨ 4095 < m.mode ∨ m.uid < 0 ∨ 1125899906842624 < m.uid ∨ m.gid < 0 ∨ 1125899906842624 < m.gid) : metaFault m = 4 := by unfold metaFault; rw [if_pos h]
theorem metaFault_size {m : Meta} (h : ¬ (m.mode < 0 ∨ 4095 < m.mode ∨ m.uid < 0 ∨ 1125899906842624 < m.uid ∨ m.gid < 0 ∨ 1125899906842624 < m.gid)) (h2 : 60 < m.user.size ∨ 60 < m.group.size) : metaFault m = 1 := by
  unfold metaFault; rw [if_neg h, if_pos h2]
theorem metaFault_form {m : Meta} (h : ¬ (m.mode < 0 ∨ 4095 < m.mode ∨ m.uid < 0 ∨ 1125899906842624 < m.uid ∨ m.gid < 0 ∨ 1125899906842624 < m.gid)) (h2 : ¬ (60 < m.user.size ∨ 60 < m.group.size)) (h3 : hasB m.user 0 = true ∨ hasB m.group 0 = true) : metaFault m = 3 := by
  unfold metaFault; rw [if_neg h, if_neg h2, if_pos h3]
theorem metaFault_time {m : Meta} (h : ¬ (m.mode < 0 ∨ 4095 < m.mode ∨ m.uid < 0 ∨ 1125899906842624 < m.uid ∨ m.gid < 0 ∨ 1125899906842624 < m.gid)) (h2 : ¬ (60 < m.user.size ∨ 60 < m.group.size)) (h3 : ¬ (hasB m.user 0 = true ∨ hasB m.group 0 = true)) : metaFault m = timeFault m.second m.nano := by
  unfold metaFault; rw [if_neg h, if_neg h2, if_neg h3]
end Go.Creel
namespace Go.Proofs.YtaffgndickdbiaaGreatDoor
open Go.Creel Go.RowKit
set_option maxRecDepth 100000 in
theorem TimeFault_any (s n : Int) (w : World) :
    Calls Tryz.prog 156 #[.int .i64 s, .int .i64 n] w fun e w' => e = .returned (.int .i64 (timeFault s n)) ∧ w = w' := by
  have hF : (timeFault s n = 4 ∧ (s < -1099511627776 ∨ 1099511627776 < s ∨ n < 0 ∨ 999999999 < n)) ∨ (timeFault s n = 0 ∧ ¬ (s < -1099511627776 ∨ 1099511627776 < s ∨ n < 0 ∨ 999999999 < n)) := by
    unfold timeFault; split <;> simp_all
  have HF := Lib.hid hF
  clear hF
  go_enter Tryz.func156, Tryz.ntmps156
  go_wp2
  all_goals (go_ret; exact ⟨ret_i (by have := HF.out; omega), rfl⟩)
set_option maxRecDepth 100000 in
theorem StampCheck_any (s n : Int) (w : World) :
    Calls Tryz.prog 146 #[.int .i64 s, .int .i64 n] w fun e w' => e = .returned (.int .i64 (timeFault s n)) ∧ w = w' := by
  have hF : (timeFault s n = 4 ∧ (s < -1099511627776 ∨ 1099511627776 < s ∨ n < 0 ∨ 999999999 < n)) ∨ (timeFault s n = 0 ∧ ¬ (s < -1099511627776 ∨ 1099511627776 < s ∨ n < 0 ∨ 999999999 < n)) := by
    unfold timeFault; split <;> simp_all
  have HF := Lib.hid hF
  clear hF
  go_enter Tryz.func146, Tryz.ntmps146
  go_wp2
  all_goals (go_ret; exact ⟨ret_i (by have := HF.out; omega), rfl⟩)
set_option maxRecDepth 100000 in
set_option maxHeartbeats 2000000 in
theorem MetaCheck_any {N : Nat} (m : Meta) (w : World) (hm : m.Ok N) (hN : N ≤ maxLen) :
    Calls Tryz.prog 83 #[m.val] w fun e w' => e = .returned (.int .i64 (metaFault m)) ∧ Below w.heap.size w w' := by
  obtain ⟨mode, uid, gid, user, group, second, nano⟩ := m
  have hu : user.size ≤ maxLen := Nat.le_trans hm.user hN
  have hg : group.size ≤ maxLen := Nat.le_trans hm.group hN
  unfold maxLen at hu hg
  clear hm
  show Calls Tryz.prog 83 #[.agg #[.int .i64 mode, .int .i64 uid, .int .i64 gid, .string user, .string group, .int .i64 second, .int .i64 nano]] w _
  by_cases hR : mode < 0 ∨ 4095 < mode ∨ uid < 0 ∨ 1125899906842624 < uid ∨ gid < 0 ∨ 1125899906842624 < gid
  · have HF := Lib.hid (metaFault_range (m := ⟨mode, uid, gid, user, group, second, nano⟩) hR)
    rcases (show mode < 0 ∨ (0 ≤ mode ∧ 4095 < mode) ∨ (0 ≤ mode ∧ mode ≤ 4095 ∧ uid < 0) ∨ (0 ≤ mode ∧ mode ≤ 4095 ∧ 0 ≤ uid ∧ 1125899906842624 < uid) ∨ (0 ≤ mode ∧ mode ≤ 4095 ∧ 0 ≤ uid ∧ uid ≤ 1125899906842624 ∧ gid < 0) ∨ (0 ≤ mode ∧ mode ≤ 4095 ∧ 0 ≤ uid ∧ uid ≤ 1125899906842624 ∧ 0 ≤ gid ∧ 1125899906842624 < gid) by omega) with h1 | ⟨h1, h2⟩ | ⟨h1, h2, h3⟩ | ⟨h1, h2, h3, h4⟩ | ⟨h1, h2, h3, h4, h5⟩ | ⟨h1, h2, h3, h4, h5, h6⟩
    all_goals
      clear hR
      go_enter Tryz.func83, Tryz.ntmps83
      go_wp2
      go_ret
      exact ⟨ret_i HF.out, (Below.refl _ _).alloc (Nat.le_refl _) _⟩
  · have hr1 : 0 ≤ mode := by omega
    have hr2 : mode ≤ 4095 := by omega
    have hr3 : 0 ≤ uid := by omega
    have hr4 : uid ≤ 1125899906842624 := by omega
    have hr5 : 0 ≤ gid := by omega
    have hr6 : gid ≤ 1125899906842624 := by omega
    by_cases hZ : 60 < user.size ∨ 60 < group.size
    · have HF := Lib.hid (metaFault_size (m := ⟨mode, uid, gid, user, group, second, nano⟩) hR hZ)
      rcases (show 60 < user.size ∨ (user.size ≤ 60 ∧ 60 < group.size) by omega) with h1 | ⟨h1, h2⟩
      all_goals
        clear hR hZ
        go_enter Tryz.func83, Tryz.ntmps83
        go_wp2
        go_ret
        exact ⟨ret_i HF.out, (Below.refl _ _).alloc (Nat.le_refl _) _⟩
    · have hz1 : user.size ≤ 60 := by omega
      have hz2 : group.size ≤ 60 := by omega
      have hix := idx_has (user ++ group) 0
      rw [hasB_append] at hix
      by_cases hB : hasB user 0 = true ∨ hasB group 0 = true
      · have HF := Lib.hid (metaFault_form (m := ⟨mode, uid, gid, user, group, second, nano⟩) hR hZ hB)
        have hi2 : decide (0 ≤ firstIdx (user ++ group) 0) = true := by rw [hix]; simpa using hB
        clear hR hZ hB hix
        go_enter Tryz.func83, Tryz.ntmps83
        go_wp2_with (go_at_call 84; refine (IndexByte_any _ _ _).mono ?_; rintro e w' ⟨rfl, rfl⟩)
        go_ret
        exact ⟨ret_i HF.out, (Below.refl _ _).alloc (Nat.le_refl _) _⟩
      · have HF := Lib.hid (metaFault_time (m := ⟨mode, uid, gid, user, group, second, nano⟩) hR hZ hB)
        have hi2 : decide (0 ≤ firstIdx (user ++ group) 0) = false := by
          rw [hix]
          simp only [not_or, Bool.not_eq_true] at hB
          rw [hB.1, hB.2]; rfl
        clear hR hZ hB hix
        go_enter Tryz.func83, Tryz.ntmps83
        go_wp2_with (first | (go_at_call 84; refine (IndexByte_any _ _ _).mono ?_; rintro e w' ⟨rfl, rfl⟩) | (go_at_call 146; refine (StampCheck_any _ _ _).mono ?_; rintro e w' ⟨rfl, rfl⟩))
        go_ret
        exact ⟨ret_i HF.out, (Below.refl _ _).alloc (Nat.le_refl _) _⟩
set_option maxRecDepth 100000 in
set_option maxHeartbeats 2000000 in
theorem MetaFault_any {N : Nat} (m : Meta) (w : World) (hm : m.Ok N) (hN : N ≤ maxLen) :
    Calls Tryz.prog 155 #[m.val] w fun e w' => e = .returned (.int .i64 (metaFault m)) ∧ Below w.heap.size w w' := by
  obtain ⟨mode, uid, gid, user, group, second, nano⟩ := m
  have hu' : user.size ≤ maxLen := Nat.le_trans hm.user hN
  have hg' : group.size ≤ maxLen := Nat.le_trans hm.group hN
  have hu := hu'
  have hg := hg'
  unfold maxLen at hu hg
  clear hm
  show Calls Tryz.prog 155 #[.agg #[.int .i64 mode, .int .i64 uid, .int .i64 gid, .string user, .string group, .int .i64 second, .int .i64 nano]] w _
  by_cases hR : mode < 0 ∨ 4095 < mode ∨ uid < 0 ∨ 1125899906842624 < uid ∨ gid < 0 ∨ 1125899906842624 < gid
  · have HF := Lib.hid (metaFault_range (m := ⟨mode, uid, gid, user, group, second, nano⟩) hR)
    rcases (show mode < 0 ∨ (0 ≤ mode ∧ 4095 < mode) ∨ (0 ≤ mode ∧ mode ≤ 4095 ∧ uid < 0) ∨ (0 ≤ mode ∧ mode ≤ 4095 ∧ 0 ≤ uid ∧ 1125899906842624 < uid) ∨ (0 ≤ mode ∧ mode ≤ 4095 ∧ 0 ≤ uid ∧ uid ≤ 1125899906842624 ∧ gid < 0) ∨ (0 ≤ mode ∧ mode ≤ 4095 ∧ 0 ≤ uid ∧ uid ≤ 1125899906842624 ∧ 0 ≤ gid ∧ 1125899906842624 < gid) by omega) with h1 | ⟨h1, h2⟩ | ⟨h1, h2, h3⟩ | ⟨h1, h2, h3, h4⟩ | ⟨h1, h2, h3, h4, h5⟩ | ⟨h1, h2, h3, h4, h5, h6⟩
    all_goals
      clear hR
      go_enter Tryz.func155, Tryz.ntmps155
      go_wp2
      go_ret
      exact ⟨ret_i HF.out, (Below.refl _ _).alloc (Nat.le_refl _) _⟩
  · have hr1 : 0 ≤ mode := by omega
    have hr2 : mode ≤ 4095 := by omega
    have hr3 : 0 ≤ uid := by omega
    have hr4 : uid ≤ 1125899906842624 := by omega
    have hr5 : 0 ≤ gid := by omega
    have hr6 : gid ≤ 1125899906842624 := by omega
    by_cases hZ : 60 < user.size ∨ 60 < group.size
    · have HF := Lib.hid (metaFault_size (m := ⟨mode, uid, gid, user, group, second, nano⟩) hR hZ)
      rcases (show 60 < user.size ∨ (user.size ≤ 60 ∧ 60 < group.size) by omega) with h1 | ⟨h1, h2⟩
      all_goals
        clear hR hZ
        go_enter Tryz.func155, Tryz.ntmps155
        go_wp2
        go_ret
        exact ⟨ret_i HF.out, (Below.refl _ _).alloc (Nat.le_refl _) _⟩
    · have hz1 : user.size ≤ 60 := by omega
      have hz2 : group.size ≤ 60 := by omega
      by_cases hB : hasB user 0 = true ∨ hasB group 0 = true
      · have HF := Lib.hid (metaFault_form (m := ⟨mode, uid, gid, user, group, second, nano⟩) hR hZ hB)
        cases hU : hasB user 0 with
        | true =>
          clear hR hZ hB
          go_enter Tryz.func155, Tryz.ntmps155
          go_wp2_with (go_at_call 105; refine (has_any _ 0 0 rfl _ hu').mono ?_; rintro e w' ⟨rfl, rfl⟩)
          go_ret
          exact ⟨ret_i HF.out, (Below.refl _ _).alloc (Nat.le_refl _) _⟩
        | false =>
          have hG : hasB group 0 = true := by simpa [hU] using hB
          clear hR hZ hB
          go_enter Tryz.func155, Tryz.ntmps155
          go_wp2_with fail
          refine (has_any _ 0 0 rfl _ hu').mono ?_
          rintro e w' ⟨rfl, rfl⟩
          go_wp2_with fail
          refine (has_any _ 0 0 rfl _ hg').mono ?_
          rintro e w' ⟨rfl, rfl⟩
          go_wp2
          go_ret
          exact ⟨ret_i HF.out, (Below.refl _ _).alloc (Nat.le_refl _) _⟩
      · have HF := Lib.hid (metaFault_time (m := ⟨mode, uid, gid, user, group, second, nano⟩) hR hZ hB)
        have hU : hasB user 0 = false := by simp only [not_or, Bool.not_eq_true] at hB; exact hB.1
        have hG : hasB group 0 = false := by simp only [not_or, Bool.not_eq_true] at hB; exact hB.2
        clear hR hZ hB
        go_enter Tryz.func155, Tryz.ntmps155
        go_wp2_with fail
        refine (has_any _ 0 0 rfl _ hu').mono ?_
        rintro e w' ⟨rfl, rfl⟩
        go_wp2_with fail
        refine (has_any _ 0 0 rfl _ hg').mono ?_
        rintro e w' ⟨rfl, rfl⟩
        go_wp2_with fail
        refine (TimeFault_any _ _ _).mono ?_
        rintro e w' ⟨rfl, rfl⟩
        go_wp2
        go_ret
        exact ⟨ret_i HF.out, (Below.refl _ _).alloc (Nat.le_refl _) _⟩
end Go.Proofs.YtaffgndickdbiaaGreatDoor
namespace Go.Creel
open Go.RowKit
def dig9 (N i : Nat) : UInt8 := UInt8.ofNat (48 + N / 10 ^ (8 - i) % 10)
def digs9 (N k : Nat) : List UInt8 := (List.range k).map (dig9 N)
theorem digs9_len (N k : Nat) : (digs9 N k).length = k := by simp [digs9]
theorem digs9_succ (N k : Nat) : digs9 N (k + 1) = digs9 N k ++ [dig9 N k] := by simp [digs9, List.range_succ]
theorem digs9_at (N : Nat) {k j : Nat} (h : j < k) : (digs9 N k)[j]? = some (dig9 N j) := by simp [digs9, h]
theorem nDigits_le : ∀ (k u : Nat), u < 10 ^ (k + 1) → Lib.nDigits u ≤ k + 1
  | 0, u, h => by rw [Lib.nDigits_small (by simpa using h)]; omega
  | k + 1, u, h => by
    by_cases h1 : u < 10
    · rw [Lib.nDigits_small h1]; omega
    · rw [Lib.nDigits_big h1]
      have := nDigits_le k (u / 10) (by rw [Nat.pow_succ] at h; omega)
      omega
theorem dig_is (x : Nat) (h : x < 10) : (UInt8.ofNat (48 + x)).toNat = 48 + x := by simp; omega
theorem dig9_toNat (N i : Nat) : (dig9 N i).toNat = 48 + N / 10 ^ (8 - i) % 10 := dig_is _ (Nat.mod_lt _ (by decide))
theorem pad9 {N : Nat} (h : N < 10 ^ 9) : List.replicate (9 - (Lib.decDigits N).length) 48 ++ Lib.decDigits N = digs9 N 9 := by
  have hd := nDigits_le 8 N h
  have hl := Lib.lt_pow_nDigits N
  rw [Lib.decDigits_length]
  apply List.ext_getElem
  · simp [digs9_len, Lib.decDigits_length]; omega
  · intro i h1 h2
    have hi : i < 9 := by rw [digs9_len] at h2; exact h2
    have eR : (digs9 N 9)[i]'h2 = dig9 N i := by simp [digs9]
    refine Eq.trans ?_ eR.symm
    by_cases hlt : i < 9 - Lib.nDigits N
    · rw [List.getElem_append_left (by simpa using hlt), List.getElem_replicate]
      have : N / 10 ^ (8 - i) = 0 := Nat.div_eq_of_lt (Nat.lt_of_lt_of_le hl (Nat.pow_le_pow_right (by decide) (by omega)))
      unfold dig9
      rw [this]
      rfl
    · rw [List.getElem_append_right (by simpa using Nat.le_of_not_lt hlt)]
      simp only [List.length_replicate]
      have e : Lib.decDigits N = (List.range (Lib.nDigits N)).map fun t => Lib.dg N (Lib.nDigits N - 1 - t) := Lib.decDigits_eq N
      simp only [e, List.getElem_map, List.getElem_range]
      have : Lib.nDigits N - 1 - (i - (9 - Lib.nDigits N)) = 8 - i := by omega
      rw [this]
      rfl
theorem trim9 {N k : Nat} (hk : k ≤ 9) (h0 : N % 10 ^ (9 - k) = 0) (h1 : k = 0 ∨ N % 10 ^ (10 - k) ≠ 0) : Lib.trimRightB (digs9 N 9) 48 = digs9 N k := by
  have e : digs9 N k = (digs9 N 9).take k := by
    apply List.ext_getElem?
    intro i
    rw [List.getElem?_take]
    by_cases hi : i < k
    · rw [if_pos hi, digs9_at N hi, digs9_at N (by omega)]
    · rw [if_neg hi, List.getElem?_eq_none (by rw [digs9_len]; omega)]
  rw [e]
  apply Lib.trimRightB_take
  · rw [digs9_len]; exact hk
  · intro j b hj hb
    by_cases hj9 : j < 9
    · rw [digs9_at N hj9] at hb
      cases hb
      have hdv : 10 ^ (9 - k) ∣ N := Nat.dvd_of_mod_eq_zero h0
      obtain ⟨q, rfl⟩ := hdv
      have e1 : 9 - k = (8 - j) + ((j - k) + 1) := by omega
      have : 10 ^ (9 - k) * q / 10 ^ (8 - j) % 10 = 0 := by
        rw [e1, Nat.pow_add, Nat.mul_assoc, Nat.mul_div_cancel_left _ (Nat.pos_of_ne_zero (by simp)), Nat.pow_succ, Nat.mul_comm (10 ^ (j - k)) 10, Nat.mul_assoc, Nat.mul_mod_right]
      unfold dig9
      rw [this]
      rfl
    · rw [List.getElem?_eq_none (by rw [digs9_len]; omega)] at hb
      cases hb
  · intro b hpos hb
    rw [digs9_at N (by omega)] at hb
    cases hb
    intro e2
    have e3 := dig9_toNat N (k - 1)
    rw [e2] at e3
    have e4 : 8 - (k - 1) = 9 - k := by omega
    rw [e4] at e3
    have e5 : N / 10 ^ (9 - k) % 10 = 0 := by
      have : (48 : UInt8).toNat = 48 := rfl
      omega
    rcases h1 with h1 | h1
    · omega
    · apply h1
      have e6 : 10 - k = (9 - k) + 1 := by omega
      rw [e6, Nat.pow_succ, Nat.mod_mul, h0, e5]
      rfl
theorem unit_digit (N k : Nat) (hk : k < 9) : N % 10 ^ (9 - k) / 10 ^ (8 - k) = N / 10 ^ (8 - k) % 10 := by
  have : 9 - k = (8 - k) + 1 := by omega
  rw [this, Nat.pow_succ, Nat.mod_mul_right_div_self]
theorem unit_rest (N k : Nat) (hk : k < 9) : N % 10 ^ (9 - k) % 10 ^ (8 - k) = N % 10 ^ (9 - (k + 1)) := by
  have h1 : 9 - k = (8 - k) + 1 := by omega
  have h2 : 9 - (k + 1) = 8 - k := by omega
  rw [h2]
  exact Nat.mod_mod_of_dvd N (by rw [h1, Nat.pow_succ]; exact Nat.dvd_mul_right _ _)
def timeS (s n : Int) : Int := if s < 0 then (if 0 < n then -s - 1 else -s) else s
def timeN (s n : Int) : Int := if s < 0 ∧ 0 < n then 1000000000 - n else n
def timeSign (s : Int) : ByteArray := if s < 0 then ofL [45] else ByteArray.empty
def timeHead (s n : Int) : ByteArray := timeSign s ++ ofL (Lib.itoa (timeS s n))
def timeText (s n : Int) : ByteArray × Int :=
  if ¬ timeFault s n = 0 then (ByteArray.empty, timeFault s n)
  else if timeN s n = 0 then (timeHead s n, 0) else (timeHead s n ++ ofL [46] ++ ofL (Lib.trimRightB (digs9 (timeN s n).toNat 9) 48), 0)
theorem timeFault_ok {s n : Int} (h : timeFault s n = 0) : -1099511627776 ≤ s ∧ s ≤ 1099511627776 ∧ 0 ≤ n ∧ n ≤ 999999999 := by
  unfold timeFault at h
  split at h
  · cases h
  · omega
theorem itoa_len13 {n : Int} (h0 : 0 ≤ n) (h1 : n ≤ 1099511627776) : (Lib.itoa n).length ≤ 13 := by
  unfold Lib.itoa
  rw [if_neg (by omega), Lib.decDigits_length]
  exact nDigits_le 12 _ (by have : (10:Nat) ^ 13 = 10000000000000 := by decide
                            omega)
end Go.Creel
