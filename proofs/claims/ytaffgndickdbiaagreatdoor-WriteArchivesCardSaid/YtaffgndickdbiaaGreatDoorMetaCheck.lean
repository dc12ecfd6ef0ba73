/-
  meta.Check and stamp.Check, and their references.
-/
import Derived.Test.YtaffgndickdbiaaGreatDoorText
namespace Go.Creel
set_option linter.unusedVariables false
def timeFault (s n : Int) : Int := if s < -1099511627776 ∨ 1099511627776 < s ∨ n < 0 ∨ 999999999 < n then 4 else 0
def metaFault (m : Meta) : Int :=
  if m.mode < 0 ∨ 4095 < m.mode ∨ m.uid < 0 ∨ 1125899906842624 < m.uid ∨ m.gid < 0 ∨ 1125899906842624 < m.gid then 4
  else if 60 < m.user.size ∨ 60 < m.group.size then 1
  else if hasB m.user 0 = true ∨ hasB m.group 0 = true then 3
  else timeFault m.second m.nano
theorem hasB_append (a b : ByteArray) (c : UInt8) : hasB (a ++ b) c = (hasB a c || hasB b c) := by
  unfold hasB
  have : (a ++ b).data.toList = a.data.toList ++ b.data.toList := by simp
  rw [this, List.any_append]
/-- a meta as a value -/
abbrev Meta.val (m : Meta) : Value := .agg #[.int .i64 m.mode, .int .i64 m.uid, .int .i64 m.gid, .string m.user, .string m.group, .int .i64 m.second, .int .i64 m.nano]
theorem metaFault_range {m : Meta} (h : m.mode < 0 ∨ 4095 < m.mode ∨ m.uid < 0 ∨ 1125899906842624 < m.uid ∨ m.gid < 0 ∨ 1125899906842624 < m.gid) : metaFault m = 4 := by unfold metaFault; rw [if_pos h]
theorem metaFault_size {m : Meta} (h : ¬ (m.mode < 0 ∨ 4095 < m.mode ∨ m.uid < 0 ∨ 1125899906842624 < m.uid ∨ m.gid < 0 ∨ 1125899906842624 < m.gid)) (h2 : 60 < m.user.size ∨ 60 < m.group.size) : metaFault m = 1 := by
  unfold metaFault; rw [if_neg h, if_pos h2]
theorem metaFault_form {m : Meta} (h : ¬ (m.mode < 0 ∨ 4095 < m.mode ∨ m.uid < 0 ∨ 1125899906842624 < m.uid ∨ m.gid < 0 ∨ 1125899906842624 < m.gid)) (h2 : ¬ (60 < m.user.size ∨ 60 < m.group.size)) (h3 : hasB m.user 0 = true ∨ hasB m.group 0 = true) : metaFault m = 3 := by
  unfold metaFault; rw [if_neg h, if_neg h2, if_pos h3]
theorem metaFault_time {m : Meta} (h : ¬ (m.mode < 0 ∨ 4095 < m.mode ∨ m.uid < 0 ∨ 1125899906842624 < m.uid ∨ m.gid < 0 ∨ 1125899906842624 < m.gid)) (h2 : ¬ (60 < m.user.size ∨ 60 < m.group.size)) (h3 : ¬ (hasB m.user 0 = true ∨ hasB m.group 0 = true)) : metaFault m = timeFault m.second m.nano := by
  unfold metaFault; rw [if_neg h, if_neg h2, if_neg h3]
end Go.Creel
namespace Go.Proofs.YtaffgndickdbiaaGreatDoor
set_option linter.unusedVariables false
open Go.Creel Go.RowKit
set_option maxRecDepth 100000 in
theorem TimeFault_any (s n : Int) (w : World) :
    Calls Tryz.prog 156 #[.int .i64 s, .int .i64 n] w fun e w' => e = .returned (.int .i64 (timeFault s n)) ∧ w = w' := by
  have hF : (timeFault s n = 4 ∧ (s < -1099511627776 ∨ 1099511627776 < s ∨ n < 0 ∨ 999999999 < n)) ∨ (timeFault s n = 0 ∧ ¬ (s < -1099511627776 ∨ 1099511627776 < s ∨ n < 0 ∨ 999999999 < n)) := by
    unfold timeFault; split <;> simp_all
  have HF := Lib.hid hF
  clear hF
  go_enter Tryz.func156, Tryz.ntmps156
  go_wp2
  all_goals (go_ret; exact ⟨ret_i (by have := HF.out; omega), rfl⟩)
set_option maxRecDepth 100000 in
theorem StampCheck_any (s n : Int) (w : World) :
    Calls Tryz.prog 146 #[.int .i64 s, .int .i64 n] w fun e w' => e = .returned (.int .i64 (timeFault s n)) ∧ w = w' := by
  have hF : (timeFault s n = 4 ∧ (s < -1099511627776 ∨ 1099511627776 < s ∨ n < 0 ∨ 999999999 < n)) ∨ (timeFault s n = 0 ∧ ¬ (s < -1099511627776 ∨ 1099511627776 < s ∨ n < 0 ∨ 999999999 < n)) := by
    unfold timeFault; split <;> simp_all
  have HF := Lib.hid hF
  clear hF
  go_enter Tryz.func146, Tryz.ntmps146
  go_wp2
  all_goals (go_ret; exact ⟨ret_i (by have := HF.out; omega), rfl⟩)
set_option maxRecDepth 100000 in
set_option maxHeartbeats 2000000 in
theorem MetaCheck_any {N : Nat} (m : Meta) (w : World) (hm : m.Ok N) (hN : N ≤ maxLen) :
    Calls Tryz.prog 83 #[m.val] w fun e w' => e = .returned (.int .i64 (metaFault m)) ∧ Below w.heap.size w w' := by
  obtain ⟨mode, uid, gid, user, group, second, nano⟩ := m
  have hu : user.size ≤ maxLen := Nat.le_trans hm.user hN
  have hg : group.size ≤ maxLen := Nat.le_trans hm.group hN
  unfold maxLen at hu hg
  clear hm
  show Calls Tryz.prog 83 #[.agg #[.int .i64 mode, .int .i64 uid, .int .i64 gid, .string user, .string group, .int .i64 second, .int .i64 nano]] w _
  by_cases hR : mode < 0 ∨ 4095 < mode ∨ uid < 0 ∨ 1125899906842624 < uid ∨ gid < 0 ∨ 1125899906842624 < gid
  · have HF := Lib.hid (metaFault_range (m := ⟨mode, uid, gid, user, group, second, nano⟩) hR)
    rcases (show mode < 0 ∨ (0 ≤ mode ∧ 4095 < mode) ∨ (0 ≤ mode ∧ mode ≤ 4095 ∧ uid < 0) ∨ (0 ≤ mode ∧ mode ≤ 4095 ∧ 0 ≤ uid ∧ 1125899906842624 < uid) ∨ (0 ≤ mode ∧ mode ≤ 4095 ∧ 0 ≤ uid ∧ uid ≤ 1125899906842624 ∧ gid < 0) ∨ (0 ≤ mode ∧ mode ≤ 4095 ∧ 0 ≤ uid ∧ uid ≤ 1125899906842624 ∧ 0 ≤ gid ∧ 1125899906842624 < gid) by omega) with h1 | ⟨h1, h2⟩ | ⟨h1, h2, h3⟩ | ⟨h1, h2, h3, h4⟩ | ⟨h1, h2, h3, h4, h5⟩ | ⟨h1, h2, h3, h4, h5, h6⟩
    all_goals
      clear hR
      go_enter Tryz.func83, Tryz.ntmps83
      go_wp2
      go_ret
      exact ⟨ret_i HF.out, (Below.refl _ _).alloc (Nat.le_refl _) _⟩
  · have hr1 : 0 ≤ mode := by omega
    have hr2 : mode ≤ 4095 := by omega
    have hr3 : 0 ≤ uid := by omega
    have hr4 : uid ≤ 1125899906842624 := by omega
    have hr5 : 0 ≤ gid := by omega
    have hr6 : gid ≤ 1125899906842624 := by omega
    by_cases hZ : 60 < user.size ∨ 60 < group.size
    · have HF := Lib.hid (metaFault_size (m := ⟨mode, uid, gid, user, group, second, nano⟩) hR hZ)
      rcases (show 60 < user.size ∨ (user.size ≤ 60 ∧ 60 < group.size) by omega) with h1 | ⟨h1, h2⟩
      all_goals
        clear hR hZ
        go_enter Tryz.func83, Tryz.ntmps83
        go_wp2
        go_ret
        exact ⟨ret_i HF.out, (Below.refl _ _).alloc (Nat.le_refl _) _⟩
    · have hz1 : user.size ≤ 60 := by omega
      have hz2 : group.size ≤ 60 := by omega
      have hix := idx_has (user ++ group) 0
      rw [hasB_append] at hix
      by_cases hB : hasB user 0 = true ∨ hasB group 0 = true
      · have HF := Lib.hid (metaFault_form (m := ⟨mode, uid, gid, user, group, second, nano⟩) hR hZ hB)
        have hi2 : decide (0 ≤ firstIdx (user ++ group) 0) = true := by rw [hix]; simpa using hB
        clear hR hZ hB hix
        go_enter Tryz.func83, Tryz.ntmps83
        go_wp2_with (go_at_call 84; refine (IndexByte_any _ _ _).mono ?_; rintro e w' ⟨rfl, rfl⟩)
        go_ret
        exact ⟨ret_i HF.out, (Below.refl _ _).alloc (Nat.le_refl _) _⟩
      · have HF := Lib.hid (metaFault_time (m := ⟨mode, uid, gid, user, group, second, nano⟩) hR hZ hB)
        have hi2 : decide (0 ≤ firstIdx (user ++ group) 0) = false := by
          rw [hix]
          simp only [not_or, Bool.not_eq_true] at hB
          rw [hB.1, hB.2]; rfl
        clear hR hZ hB hix
        go_enter Tryz.func83, Tryz.ntmps83
        go_wp2_with (first | (go_at_call 84; refine (IndexByte_any _ _ _).mono ?_; rintro e w' ⟨rfl, rfl⟩) | (go_at_call 146; refine (StampCheck_any _ _ _).mono ?_; rintro e w' ⟨rfl, rfl⟩))
        go_ret
        exact ⟨ret_i HF.out, (Below.refl _ _).alloc (Nat.le_refl _) _⟩
set_option maxRecDepth 100000 in
set_option maxHeartbeats 2000000 in
theorem MetaFault_any {N : Nat} (m : Meta) (w : World) (hm : m.Ok N) (hN : N ≤ maxLen) :
    Calls Tryz.prog 155 #[m.val] w fun e w' => e = .returned (.int .i64 (metaFault m)) ∧ Below w.heap.size w w' := by
  obtain ⟨mode, uid, gid, user, group, second, nano⟩ := m
  have hu' : user.size ≤ maxLen := Nat.le_trans hm.user hN
  have hg' : group.size ≤ maxLen := Nat.le_trans hm.group hN
  have hu := hu'
  have hg := hg'
  unfold maxLen at hu hg
  clear hm
  show Calls Tryz.prog 155 #[.agg #[.int .i64 mode, .int .i64 uid, .int .i64 gid, .string user, .string group, .int .i64 second, .int .i64 nano]] w _
  by_cases hR : mode < 0 ∨ 4095 < mode ∨ uid < 0 ∨ 1125899906842624 < uid ∨ gid < 0 ∨ 1125899906842624 < gid
  · have HF := Lib.hid (metaFault_range (m := ⟨mode, uid, gid, user, group, second, nano⟩) hR)
    rcases (show mode < 0 ∨ (0 ≤ mode ∧ 4095 < mode) ∨ (0 ≤ mode ∧ mode ≤ 4095 ∧ uid < 0) ∨ (0 ≤ mode ∧ mode ≤ 4095 ∧ 0 ≤ uid ∧ 1125899906842624 < uid) ∨ (0 ≤ mode ∧ mode ≤ 4095 ∧ 0 ≤ uid ∧ uid ≤ 1125899906842624 ∧ gid < 0) ∨ (0 ≤ mode ∧ mode ≤ 4095 ∧ 0 ≤ uid ∧ uid ≤ 1125899906842624 ∧ 0 ≤ gid ∧ 1125899906842624 < gid) by omega) with h1 | ⟨h1, h2⟩ | ⟨h1, h2, h3⟩ | ⟨h1, h2, h3, h4⟩ | ⟨h1, h2, h3, h4, h5⟩ | ⟨h1, h2, h3, h4, h5, h6⟩
    all_goals
      clear hR
      go_enter Tryz.func155, Tryz.ntmps155
      go_wp2
      go_ret
      exact ⟨ret_i HF.out, (Below.refl _ _).alloc (Nat.le_refl _) _⟩
  · have hr1 : 0 ≤ mode := by omega
    have hr2 : mode ≤ 4095 := by omega
    have hr3 : 0 ≤ uid := by omega
    have hr4 : uid ≤ 1125899906842624 := by omega
    have hr5 : 0 ≤ gid := by omega
    have hr6 : gid ≤ 1125899906842624 := by omega
    by_cases hZ : 60 < user.size ∨ 60 < group.size
    · have HF := Lib.hid (metaFault_size (m := ⟨mode, uid, gid, user, group, second, nano⟩) hR hZ)
      rcases (show 60 < user.size ∨ (user.size ≤ 60 ∧ 60 < group.size) by omega) with h1 | ⟨h1, h2⟩
      all_goals
        clear hR hZ
        go_enter Tryz.func155, Tryz.ntmps155
        go_wp2
        go_ret
        exact ⟨ret_i HF.out, (Below.refl _ _).alloc (Nat.le_refl _) _⟩
    · have hz1 : user.size ≤ 60 := by omega
      have hz2 : group.size ≤ 60 := by omega
      by_cases hB : hasB user 0 = true ∨ hasB group 0 = true
      · have HF := Lib.hid (metaFault_form (m := ⟨mode, uid, gid, user, group, second, nano⟩) hR hZ hB)
        cases hU : hasB user 0 with
        | true =>
          clear hR hZ hB
          go_enter Tryz.func155, Tryz.ntmps155
          go_wp2_with (go_at_call 105; refine (has_any _ 0 0 rfl _ hu').mono ?_; rintro e w' ⟨rfl, rfl⟩)
          go_ret
          exact ⟨ret_i HF.out, (Below.refl _ _).alloc (Nat.le_refl _) _⟩
        | false =>
          have hG : hasB group 0 = true := by simpa [hU] using hB
          clear hR hZ hB
          go_enter Tryz.func155, Tryz.ntmps155
          go_wp2_with fail
          refine (has_any _ 0 0 rfl _ hu').mono ?_
          rintro e w' ⟨rfl, rfl⟩
          go_wp2_with fail
          refine (has_any _ 0 0 rfl _ hg').mono ?_
          rintro e w' ⟨rfl, rfl⟩
          go_wp2
          go_ret
          exact ⟨ret_i HF.out, (Below.refl _ _).alloc (Nat.le_refl _) _⟩
      · have HF := Lib.hid (metaFault_time (m := ⟨mode, uid, gid, user, group, second, nano⟩) hR hZ hB)
        have hU : hasB user 0 = false := by simp only [not_or, Bool.not_eq_true] at hB; exact hB.1
        have hG : hasB group 0 = false := by simp only [not_or, Bool.not_eq_true] at hB; exact hB.2
        clear hR hZ hB
        go_enter Tryz.func155, Tryz.ntmps155
        go_wp2_with fail
        refine (has_any _ 0 0 rfl _ hu').mono ?_
        rintro e w' ⟨rfl, rfl⟩
        go_wp2_with fail
        refine (has_any _ 0 0 rfl _ hg').mono ?_
        rintro e w' ⟨rfl, rfl⟩
        go_wp2_with fail
        refine (TimeFault_any _ _ _).mono ?_
        rintro e w' ⟨rfl, rfl⟩
        go_wp2
        go_ret
        exact ⟨ret_i HF.out, (Below.refl _ _).alloc (Nat.le_refl _) _⟩
end Go.Proofs.YtaffgndickdbiaaGreatDoor
