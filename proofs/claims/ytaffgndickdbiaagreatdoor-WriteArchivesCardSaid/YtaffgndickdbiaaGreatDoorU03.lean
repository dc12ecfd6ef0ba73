/-
  Texts: MetaCheck, StampSpec, Shelf, Itoa.
-/
import Derived.Test.YtaffgndickdbiaaGreatDoorU02
import Derived.Lib.ItoaNum
import Derived.Lib.TrimByte
import Derived.Shelf.Strings.Builder1
import Derived.Shelf.Strings.Builder2
import Derived.Shelf.Strings.Trim
import Derived.Shelf.Small.Utf8
import Derived.Shelf.Small.Strs
import Derived.Shelf.Small.Wraps
import Derived.Shelf.Strings.BuilderF
import Derived.Shelf.Strings.BuilderK
import Derived.Shelf.Strings.Builder2Cap
import Derived.Shelf.Strconv.Atoi
import Derived.Shelf.Strconv.Itoa0
import Derived.Shelf.Strconv.Itoa1
import Derived.Shelf.LaysM
import Derived.Shelf.Strconv.Itoa2
import Derived.Shelf.Strconv.Itoa3
import Derived.Shelf.Strconv.AtoiErrFast
import Derived.Shelf.Strconv.ParseIntEmpty
import Derived.Shelf.Strconv.AtoiFail
import Derived.Shelf.Strconv.Clone
import Derived.Shelf.Strconv.SyntaxError
import Derived.Shelf.LaysC
import Derived.Shelf.Strconv.ToError
import Derived.Shelf.Strconv.Lower
import Derived.Shelf.Strconv.ParseUint10
import Derived.Shelf.Strconv.ParseUint10Empty
import Derived.Shelf.Strconv.ParseUint10Any
import Derived.Shelf.Strconv.ParseInt10
import Derived.Shelf.Strconv.AtoiLong
import Derived.Shelf.Strconv.AtoiInnerAll
import Derived.Shelf.Strconv.RangeError
import Derived.Shelf.Strconv.ToErrorRange
import Derived.Shelf.Strconv.AtoiAll
import Derived.Shelf.Strings.Search1
import Derived.Shelf.Strings.Search2
import Derived.Shelf.Strings.Search3
import Derived.Shelf.Strings.Cut
import Derived.Shelf.Strings.Count
import Derived.Shelf.Strings.Shaped
import Derived.Shelf.Strings.LastIndex
import Derived.Shelf.Strings.Prefix
import Derived.Shelf.Strings.Split
import Derived.Shelf.Strings.SplitShaped
import Derived.Shelf.Strings.Runes
import Derived.Shelf.Strings.IndexAny
import Derived.Shelf.Strings.AsciiSet
import Derived.Shelf.Strings.IndexAnyAll
import Derived.Shelf.Bits.Mul64
import Derived.Shelf.Strings.Repeat
import Derived.Shelf.Unicode.DecodeSlow
import Derived.Shelf.Strings.BuilderCap
import Derived.Shelf.Slices.Equal
import Derived.Shelf.Slices.Empties2
import Derived.Ground.PaProg
import Derived.Shelf.Path.Small
import Derived.Test.YtaffgndickdbiaaGreatDoorProg
import Derived.Lib.LaidTab
set_option linter.unusedVariables false
set_option linter.unusedSimpArgs false
set_option linter.unusedSectionVars false
namespace Go.Creel
def timeFault (s n : Int) : Int := if s < -1099511627776 ∨ 1099511627776 < s ∨ n < 0 ∨ 999999999 < n then 4 else 0
def metaFault (m : Meta) : Int :=
  if m.mode < 0 ∨ 4095 < m.mode ∨ m.uid < 0 ∨ 1125899906842624 < m.uid ∨ m.gid < 0 ∨ 1125899906842624 < m.gid then 4
  else if 60 < m.user.size ∨ 60 < m.group.size then 1
  else if hasB m.user 0 = true ∨ hasB m.group 0 = true then 3
  else timeFault m.second m.nano
theorem hasB_append (a b : ByteArray) (c : UInt8) : hasB (a ++ b) c = (hasB a c || hasB b c) := by
  unfold hasB
  have : (a ++ b).data.toList = a.data.toList ++ b.data.toList := by simp
  rw [this, List.any_append]
abbrev Meta.val (m : Meta) : Value := .agg #[.int .i64 m.mode, .int .i64 m.uid, .int .i64 m.gid, .string m.user, .string m.group, .int .i64 m.second, .int .i64 m.nano]
theorem metaFault_range {m : Meta} (h : m.mode < 0 ∨ 4095 < m.mode ∨ m.uid < 0 ∨ 1125899906842624 < m.uid ∨ m.gid < 0 ∨ 1125899906842624 < m.gid) : metaFault m = 4 := by unfold metaFault; rw [if_pos h]
theorem metaFault_size {m : Meta} (h : ¬ (m.mode < 0 ∨ 4095 < m.mode ∨ m.uid < 0 ∨ 1125899906842624 < m.uid ∨ m.gid < 0 ∨ 1125899906842624 < m.gid)) (h2 : 60 < m.user.size ∨ 60 < m.group.size) : metaFault m = 1 := by
  unfold metaFault; rw [if_neg h, if_pos h2]
theorem metaFault_form {m : Meta} (h : ¬ (m.mode < 0 ∨ 4095 < m.mode ∨ m.uid < 0 ∨ 1125899906842624 < m.uid ∨ m.gid < 0 ∨ 1125899906842624 < m.gid)) (h2 : ¬ (60 < m.user.size ∨ 60 < m.group.size)) (h3 : hasB m.user 0 = true ∨ hasB m.group 0 = true) : metaFault m = 3 := by
  unfold metaFault; rw [if_neg h, if_neg h2, if_pos h3]
theorem metaFault_time {m : Meta} (h : ¬ (m.mode < 0 ∨ 4095 < m.mode ∨ m.uid < 0 ∨ 1125899906842624 < m.uid ∨ m.gid < 0 ∨ 1125899906842624 < m.gid)) (h2 : ¬ (60 < m.user.size ∨ 60 < m.group.size)) (h3 : ¬ (hasB m.user 0 = true ∨ hasB m.group 0 = true)) : metaFault m = timeFault m.second m.nano := by
  unfold metaFault; rw [if_neg h, if_neg h2, if_neg h3]
end Go.Creel
namespace Go.Proofs.YtaffgndickdbiaaGreatDoor
open Go.Creel Go.RowKit
set_option maxRecDepth 100000 in
theorem TimeFault_any (s n : Int) (w : World) :
    Calls Tryz.prog 156 #[.int .i64 s, .int .i64 n] w fun e w' => e = .returned (.int .i64 (timeFault s n)) ∧ w = w' := by
  have hF : (timeFault s n = 4 ∧ (s < -1099511627776 ∨ 1099511627776 < s ∨ n < 0 ∨ 999999999 < n)) ∨ (timeFault s n = 0 ∧ ¬ (s < -1099511627776 ∨ 1099511627776 < s ∨ n < 0 ∨ 999999999 < n)) := by
    unfold timeFault; split <;> simp_all
  have HF := Lib.hid hF
  clear hF
  go_enter Tryz.func156, Tryz.ntmps156
  go_wp2
  all_goals (go_ret; exact ⟨ret_i (by have := HF.out; omega), rfl⟩)
set_option maxRecDepth 100000 in
theorem StampCheck_any (s n : Int) (w : World) :
    Calls Tryz.prog 146 #[.int .i64 s, .int .i64 n] w fun e w' => e = .returned (.int .i64 (timeFault s n)) ∧ w = w' := by
  have hF : (timeFault s n = 4 ∧ (s < -1099511627776 ∨ 1099511627776 < s ∨ n < 0 ∨ 999999999 < n)) ∨ (timeFault s n = 0 ∧ ¬ (s < -1099511627776 ∨ 1099511627776 < s ∨ n < 0 ∨ 999999999 < n)) := by
    unfold timeFault; split <;> simp_all
  have HF := Lib.hid hF
  clear hF
  go_enter Tryz.func146, Tryz.ntmps146
  go_wp2
  all_goals (go_ret; exact ⟨ret_i (by have := HF.out; omega), rfl⟩)
set_option maxRecDepth 100000 in
set_option maxHeartbeats 2000000 in
theorem MetaCheck_any {N : Nat} (m : Meta) (w : World) (hm : m.Ok N) (hN : N ≤ maxLen) :
    Calls Tryz.prog 83 #[m.val] w fun e w' => e = .returned (.int .i64 (metaFault m)) ∧ Below w.heap.size w w' := by
  obtain ⟨mode, uid, gid, user, group, second, nano⟩ := m
  have hu : user.size ≤ maxLen := Nat.le_trans hm.user hN
  have hg : group.size ≤ maxLen := Nat.le_trans hm.group hN
  unfold maxLen at hu hg
  clear hm
  show Calls Tryz.prog 83 #[.agg #[.int .i64 mode, .int .i64 uid, .int .i64 gid, .string user, .string group, .int .i64 second, .int .i64 nano]] w _
  by_cases hR : mode < 0 ∨ 4095 < mode ∨ uid < 0 ∨ 1125899906842624 < uid ∨ gid < 0 ∨ 1125899906842624 < gid
  · have HF := Lib.hid (metaFault_range (m := ⟨mode, uid, gid, user, group, second, nano⟩) hR)
    rcases (show mode < 0 ∨ (0 ≤ mode ∧ 4095 < mode) ∨ (0 ≤ mode ∧ mode ≤ 4095 ∧ uid < 0) ∨ (0 ≤ mode ∧ mode ≤ 4095 ∧ 0 ≤ uid ∧ 1125899906842624 < uid) ∨ (0 ≤ mode ∧ mode ≤ 4095 ∧ 0 ≤ uid ∧ uid ≤ 1125899906842624 ∧ gid < 0) ∨ (0 ≤ mode ∧ mode ≤ 4095 ∧ 0 ≤ uid ∧ uid ≤ 1125899906842624 ∧ 0 ≤ gid ∧ 1125899906842624 < gid) by omega) with h1 | ⟨h1, h2⟩ | ⟨h1, h2, h3⟩ | ⟨h1, h2, h3, h4⟩ | ⟨h1, h2, h3, h4, h5⟩ | ⟨h1, h2, h3, h4, h5, h6⟩
    all_goals
      clear hR
      go_enter Tryz.func83, Tryz.ntmps83
      go_wp2
      go_ret
      exact ⟨ret_i HF.out, (Below.refl _ _).alloc (Nat.le_refl _) _⟩
  · have hr1 : 0 ≤ mode := by omega
    have hr2 : mode ≤ 4095 := by omega
    have hr3 : 0 ≤ uid := by omega
    have hr4 : uid ≤ 1125899906842624 := by omega
    have hr5 : 0 ≤ gid := by omega
    have hr6 : gid ≤ 1125899906842624 := by omega
    by_cases hZ : 60 < user.size ∨ 60 < group.size
    · have HF := Lib.hid (metaFault_size (m := ⟨mode, uid, gid, user, group, second, nano⟩) hR hZ)
      rcases (show 60 < user.size ∨ (user.size ≤ 60 ∧ 60 < group.size) by omega) with h1 | ⟨h1, h2⟩
      all_goals
        clear hR hZ
        go_enter Tryz.func83, Tryz.ntmps83
        go_wp2
        go_ret
        exact ⟨ret_i HF.out, (Below.refl _ _).alloc (Nat.le_refl _) _⟩
    · have hz1 : user.size ≤ 60 := by omega
      have hz2 : group.size ≤ 60 := by omega
      have hix := idx_has (user ++ group) 0
      rw [hasB_append] at hix
      by_cases hB : hasB user 0 = true ∨ hasB group 0 = true
      · have HF := Lib.hid (metaFault_form (m := ⟨mode, uid, gid, user, group, second, nano⟩) hR hZ hB)
        have hi2 : decide (0 ≤ firstIdx (user ++ group) 0) = true := by rw [hix]; simpa using hB
        clear hR hZ hB hix
        go_enter Tryz.func83, Tryz.ntmps83
        go_wp2_with (go_at_call 84; refine (IndexByte_any _ _ _).mono ?_; rintro e w' ⟨rfl, rfl⟩)
        go_ret
        exact ⟨ret_i HF.out, (Below.refl _ _).alloc (Nat.le_refl _) _⟩
      · have HF := Lib.hid (metaFault_time (m := ⟨mode, uid, gid, user, group, second, nano⟩) hR hZ hB)
        have hi2 : decide (0 ≤ firstIdx (user ++ group) 0) = false := by
          rw [hix]
          simp only [not_or, Bool.not_eq_true] at hB
          rw [hB.1, hB.2]; rfl
        clear hR hZ hB hix
        go_enter Tryz.func83, Tryz.ntmps83
        go_wp2_with (first | (go_at_call 84; refine (IndexByte_any _ _ _).mono ?_; rintro e w' ⟨rfl, rfl⟩) | (go_at_call 146; refine (StampCheck_any _ _ _).mono ?_; rintro e w' ⟨rfl, rfl⟩))
        go_ret
        exact ⟨ret_i HF.out, (Below.refl _ _).alloc (Nat.le_refl _) _⟩
set_option maxRecDepth 100000 in
set_option maxHeartbeats 2000000 in
theorem MetaFault_any {N : Nat} (m : Meta) (w : World) (hm : m.Ok N) (hN : N ≤ maxLen) :
    Calls Tryz.prog 155 #[m.val] w fun e w' => e = .returned (.int .i64 (metaFault m)) ∧ Below w.heap.size w w' := by
  obtain ⟨mode, uid, gid, user, group, second, nano⟩ := m
  have hu' : user.size ≤ maxLen := Nat.le_trans hm.user hN
  have hg' : group.size ≤ maxLen := Nat.le_trans hm.group hN
  have hu := hu'
  have hg := hg'
  unfold maxLen at hu hg
  clear hm
  show Calls Tryz.prog 155 #[.agg #[.int .i64 mode, .int .i64 uid, .int .i64 gid, .string user, .string group, .int .i64 second, .int .i64 nano]] w _
  by_cases hR : mode < 0 ∨ 4095 < mode ∨ uid < 0 ∨ 1125899906842624 < uid ∨ gid < 0 ∨ 1125899906842624 < gid
  · have HF := Lib.hid (metaFault_range (m := ⟨mode, uid, gid, user, group, second, nano⟩) hR)
    rcases (show mode < 0 ∨ (0 ≤ mode ∧ 4095 < mode) ∨ (0 ≤ mode ∧ mode ≤ 4095 ∧ uid < 0) ∨ (0 ≤ mode ∧ mode ≤ 4095 ∧ 0 ≤ uid ∧ 1125899906842624 < uid) ∨ (0 ≤ mode ∧ mode ≤ 4095 ∧ 0 ≤ uid ∧ uid ≤ 1125899906842624 ∧ gid < 0) ∨ (0 ≤ mode ∧ mode ≤ 4095 ∧ 0 ≤ uid ∧ uid ≤ 1125899906842624 ∧ 0 ≤ gid ∧ 1125899906842624 < gid) by omega) with h1 | ⟨h1, h2⟩ | ⟨h1, h2, h3⟩ | ⟨h1, h2, h3, h4⟩ | ⟨h1, h2, h3, h4, h5⟩ | ⟨h1, h2, h3, h4, h5, h6⟩
    all_goals
      clear hR
      go_enter Tryz.func155, Tryz.ntmps155
      go_wp2
      go_ret
      exact ⟨ret_i HF.out, (Below.refl _ _).alloc (Nat.le_refl _) _⟩
  · have hr1 : 0 ≤ mode := by omega
    have hr2 : mode ≤ 4095 := by omega
    have hr3 : 0 ≤ uid := by omega
    have hr4 : uid ≤ 1125899906842624 := by omega
    have hr5 : 0 ≤ gid := by omega
    have hr6 : gid ≤ 1125899906842624 := by omega
    by_cases hZ : 60 < user.size ∨ 60 < group.size
    · have HF := Lib.hid (metaFault_size (m := ⟨mode, uid, gid, user, group, second, nano⟩) hR hZ)
      rcases (show 60 < user.size ∨ (user.size ≤ 60 ∧ 60 < group.size) by omega) with h1 | ⟨h1, h2⟩
      all_goals
        clear hR hZ
        go_enter Tryz.func155, Tryz.ntmps155
        go_wp2
        go_ret
        exact ⟨ret_i HF.out, (Below.refl _ _).alloc (Nat.le_refl _) _⟩
    · have hz1 : user.size ≤ 60 := by omega
      have hz2 : group.size ≤ 60 := by omega
      by_cases hB : hasB user 0 = true ∨ hasB group 0 = true
      · have HF := Lib.hid (metaFault_form (m := ⟨mode, uid, gid, user, group, second, nano⟩) hR hZ hB)
        cases hU : hasB user 0 with
        | true =>
          clear hR hZ hB
          go_enter Tryz.func155, Tryz.ntmps155
          go_wp2_with (go_at_call 105; refine (has_any _ 0 0 rfl _ hu').mono ?_; rintro e w' ⟨rfl, rfl⟩)
          go_ret
          exact ⟨ret_i HF.out, (Below.refl _ _).alloc (Nat.le_refl _) _⟩
        | false =>
          have hG : hasB group 0 = true := by simpa [hU] using hB
          clear hR hZ hB
          go_enter Tryz.func155, Tryz.ntmps155
          go_wp2_with fail
          refine (has_any _ 0 0 rfl _ hu').mono ?_
          rintro e w' ⟨rfl, rfl⟩
          go_wp2_with fail
          refine (has_any _ 0 0 rfl _ hg').mono ?_
          rintro e w' ⟨rfl, rfl⟩
          go_wp2
          go_ret
          exact ⟨ret_i HF.out, (Below.refl _ _).alloc (Nat.le_refl _) _⟩
      · have HF := Lib.hid (metaFault_time (m := ⟨mode, uid, gid, user, group, second, nano⟩) hR hZ hB)
        have hU : hasB user 0 = false := by simp only [not_or, Bool.not_eq_true] at hB; exact hB.1
        have hG : hasB group 0 = false := by simp only [not_or, Bool.not_eq_true] at hB; exact hB.2
        clear hR hZ hB
        go_enter Tryz.func155, Tryz.ntmps155
        go_wp2_with fail
        refine (has_any _ 0 0 rfl _ hu').mono ?_
        rintro e w' ⟨rfl, rfl⟩
        go_wp2_with fail
        refine (has_any _ 0 0 rfl _ hg').mono ?_
        rintro e w' ⟨rfl, rfl⟩
        go_wp2_with fail
        refine (TimeFault_any _ _ _).mono ?_
        rintro e w' ⟨rfl, rfl⟩
        go_wp2
        go_ret
        exact ⟨ret_i HF.out, (Below.refl _ _).alloc (Nat.le_refl _) _⟩
end Go.Proofs.YtaffgndickdbiaaGreatDoor
namespace Go.Creel
open Go.RowKit
def dig9 (N i : Nat) : UInt8 := UInt8.ofNat (48 + N / 10 ^ (8 - i) % 10)
def digs9 (N k : Nat) : List UInt8 := (List.range k).map (dig9 N)
theorem digs9_len (N k : Nat) : (digs9 N k).length = k := by simp [digs9]
theorem digs9_succ (N k : Nat) : digs9 N (k + 1) = digs9 N k ++ [dig9 N k] := by simp [digs9, List.range_succ]
theorem digs9_at (N : Nat) {k j : Nat} (h : j < k) : (digs9 N k)[j]? = some (dig9 N j) := by simp [digs9, h]
theorem nDigits_le : ∀ (k u : Nat), u < 10 ^ (k + 1) → Lib.nDigits u ≤ k + 1
  | 0, u, h => by rw [Lib.nDigits_small (by simpa using h)]; omega
  | k + 1, u, h => by
    by_cases h1 : u < 10
    · rw [Lib.nDigits_small h1]; omega
    · rw [Lib.nDigits_big h1]
      have := nDigits_le k (u / 10) (by rw [Nat.pow_succ] at h; omega)
      omega
theorem dig_is (x : Nat) (h : x < 10) : (UInt8.ofNat (48 + x)).toNat = 48 + x := by simp; omega
theorem dig9_toNat (N i : Nat) : (dig9 N i).toNat = 48 + N / 10 ^ (8 - i) % 10 := dig_is _ (Nat.mod_lt _ (by decide))
theorem pad9 {N : Nat} (h : N < 10 ^ 9) : List.replicate (9 - (Lib.decDigits N).length) 48 ++ Lib.decDigits N = digs9 N 9 := by
  have hd := nDigits_le 8 N h
  have hl := Lib.lt_pow_nDigits N
  rw [Lib.decDigits_length]
  apply List.ext_getElem
  · simp [digs9_len, Lib.decDigits_length]; omega
  · intro i h1 h2
    have hi : i < 9 := by rw [digs9_len] at h2; exact h2
    have eR : (digs9 N 9)[i]'h2 = dig9 N i := by simp [digs9]
    refine Eq.trans ?_ eR.symm
    by_cases hlt : i < 9 - Lib.nDigits N
    · rw [List.getElem_append_left (by simpa using hlt), List.getElem_replicate]
      have : N / 10 ^ (8 - i) = 0 := Nat.div_eq_of_lt (Nat.lt_of_lt_of_le hl (Nat.pow_le_pow_right (by decide) (by omega)))
      unfold dig9
      rw [this]
      rfl
    · rw [List.getElem_append_right (by simpa using Nat.le_of_not_lt hlt)]
      simp only [List.length_replicate]
      have e : Lib.decDigits N = (List.range (Lib.nDigits N)).map fun t => Lib.dg N (Lib.nDigits N - 1 - t) := Lib.decDigits_eq N
      simp only [e, List.getElem_map, List.getElem_range]
      have : Lib.nDigits N - 1 - (i - (9 - Lib.nDigits N)) = 8 - i := by omega
      rw [this]
      rfl
theorem trim9 {N k : Nat} (hk : k ≤ 9) (h0 : N % 10 ^ (9 - k) = 0) (h1 : k = 0 ∨ N % 10 ^ (10 - k) ≠ 0) : Lib.trimRightB (digs9 N 9) 48 = digs9 N k := by
  have e : digs9 N k = (digs9 N 9).take k := by
    apply List.ext_getElem?
    intro i
    rw [List.getElem?_take]
    by_cases hi : i < k
    · rw [if_pos hi, digs9_at N hi, digs9_at N (by omega)]
    · rw [if_neg hi, List.getElem?_eq_none (by rw [digs9_len]; omega)]
  rw [e]
  apply Lib.trimRightB_take
  · rw [digs9_len]; exact hk
  · intro j b hj hb
    by_cases hj9 : j < 9
    · rw [digs9_at N hj9] at hb
      cases hb
      have hdv : 10 ^ (9 - k) ∣ N := Nat.dvd_of_mod_eq_zero h0
      obtain ⟨q, rfl⟩ := hdv
      have e1 : 9 - k = (8 - j) + ((j - k) + 1) := by omega
      have : 10 ^ (9 - k) * q / 10 ^ (8 - j) % 10 = 0 := by
        rw [e1, Nat.pow_add, Nat.mul_assoc, Nat.mul_div_cancel_left _ (Nat.pos_of_ne_zero (by simp)), Nat.pow_succ, Nat.mul_comm (10 ^ (j - k)) 10, Nat.mul_assoc, Nat.mul_mod_right]
      unfold dig9
      rw [this]
      rfl
    · rw [List.getElem?_eq_none (by rw [digs9_len]; omega)] at hb
      cases hb
  · intro b hpos hb
    rw [digs9_at N (by omega)] at hb
    cases hb
    intro e2
    have e3 := dig9_toNat N (k - 1)
    rw [e2] at e3
    have e4 : 8 - (k - 1) = 9 - k := by omega
    rw [e4] at e3
    have e5 : N / 10 ^ (9 - k) % 10 = 0 := by
      have : (48 : UInt8).toNat = 48 := rfl
      omega
    rcases h1 with h1 | h1
    · omega
    · apply h1
      have e6 : 10 - k = (9 - k) + 1 := by omega
      rw [e6, Nat.pow_succ, Nat.mod_mul, h0, e5]
      rfl
theorem unit_digit (N k : Nat) (hk : k < 9) : N % 10 ^ (9 - k) / 10 ^ (8 - k) = N / 10 ^ (8 - k) % 10 := by
  have : 9 - k = (8 - k) + 1 := by omega
  rw [this, Nat.pow_succ, Nat.mod_mul_right_div_self]
theorem unit_rest (N k : Nat) (hk : k < 9) : N % 10 ^ (9 - k) % 10 ^ (8 - k) = N % 10 ^ (9 - (k + 1)) := by
  have h1 : 9 - k = (8 - k) + 1 := by omega
  have h2 : 9 - (k + 1) = 8 - k := by omega
  rw [h2]
  exact Nat.mod_mod_of_dvd N (by rw [h1, Nat.pow_succ]; exact Nat.dvd_mul_right _ _)
def timeS (s n : Int) : Int := if s < 0 then (if 0 < n then -s - 1 else -s) else s
def timeN (s n : Int) : Int := if s < 0 ∧ 0 < n then 1000000000 - n else n
def timeSign (s : Int) : ByteArray := if s < 0 then ofL [45] else ByteArray.empty
def timeHead (s n : Int) : ByteArray := timeSign s ++ ofL (Lib.itoa (timeS s n))
def timeText (s n : Int) : ByteArray × Int :=
  if ¬ timeFault s n = 0 then (ByteArray.empty, timeFault s n)
  else if timeN s n = 0 then (timeHead s n, 0) else (timeHead s n ++ ofL [46] ++ ofL (Lib.trimRightB (digs9 (timeN s n).toNat 9) 48), 0)
theorem timeFault_ok {s n : Int} (h : timeFault s n = 0) : -1099511627776 ≤ s ∧ s ≤ 1099511627776 ∧ 0 ≤ n ∧ n ≤ 999999999 := by
  unfold timeFault at h
  split at h
  · cases h
  · omega
theorem itoa_len13 {n : Int} (h0 : 0 ≤ n) (h1 : n ≤ 1099511627776) : (Lib.itoa n).length ≤ 13 := by
  unfold Lib.itoa
  rw [if_neg (by omega), Lib.decDigits_length]
  exact nDigits_le 12 _ (by have : (10:Nat) ^ 13 = 10000000000000 := by decide
                            omega)
end Go.Creel
namespace Go.Proofs
open Go.Shelf
def Tryz.lays169_ren : Go.Shelf.Ren := ⟨fun | 169 => 94 | n => n, fun | 70 => 122 | 9 => 9 | 0 => 0 | 72 => 124 | 37 => 24 | 127 => 171 | 3 => 3 | 5 => 5 | n => n, fun | n => n⟩
theorem Tryz.lays169 : Go.Proofs.Lays.n169 Tryz.prog Tryz.lays169_ren := {
  mixed := by kernel_rfl
  f169 := Tryz.func94.trans (congrArg some (by kernel_rfl))
  t0 := Tryz.underlying0
  a0 := Tryz.isAgg0
  z0 := Tryz.sizeOf0
  v0 := Tryz.zeroValue0
  t3 := Tryz.underlying3
  a3 := Tryz.isAgg3
  z3 := Tryz.sizeOf3
  v3 := Tryz.zeroValue3
  t9 := Tryz.underlying9
  a9 := Tryz.isAgg9
  z9 := Tryz.sizeOf9
  v9 := Tryz.zeroValue9
  t37 := Tryz.underlying24
  a37 := Tryz.isAgg24
  z37 := Tryz.sizeOf24
  v37 := Tryz.zeroValue24
  t70 := Tryz.underlying122
  a70 := Tryz.isAgg122
  z70 := Tryz.sizeOf122
  v70 := Tryz.zeroValue122
  t72 := Tryz.underlying124
  a72 := Tryz.isAgg124
  z72 := Tryz.sizeOf124
  v72 := Tryz.zeroValue124
  t127 := Tryz.underlying171
  a127 := Tryz.isAgg171
  z127 := Tryz.sizeOf171
  v127 := Tryz.zeroValue171 }
theorem Tryz.Builder_Extra_169 : Builder.Extra Tryz.prog Tryz.lays169_ren := {
  sizeBuilder := by kernel_rfl
  liesBuilder := by kernel_rfl
  t5 := Tryz.underlying5
  a5 := Tryz.isAgg5
  z5 := Tryz.sizeOf5
  v5 := Tryz.zeroValue5
  infoByte := by kernel_rfl
  cellsByte := by kernel_rfl
  sizeByte := by kernel_rfl
  neB5 := by decide }
open Go.RowKit in
theorem Tryz.Builder_String_any (B b : Nat) (l : List UInt8) (w : World) (h : Lib.IsBuilder 124 5 B b (Lib.byteCells l) w) (hBw : B ≤ w.heap.size) :
    Calls Tryz.prog 94 #[.pointer (some ⟨b, 0, none⟩)] w fun e w' => e = .returned (.string ⟨l.toArray⟩) ∧ Below B w w' := Any.Builder_String_any Tryz.lays169 Tryz.Builder_Extra_169 B b l w h hBw
def Tryz.lays162_ren : Go.Shelf.Ren := ⟨fun | 162 => 148 | 232 => 190 | 227 => 191 | 234 => 193 | 236 => 195 | 228 => 215 | 271 => 218 | 151 => 217 | 120 => 234 | 197 => 216 | 152 => 233 | 260 => 232 | 137 => 84 | 119 => 246 | 224 => 244 | 225 => 243 | 217 => 147 | 266 => 199 | n => n, fun | 9 => 9 | 4 => 4 | 3 => 3 | 5 => 5 | 117 => 205 | 116 => 204 | 0 => 0 | 124 => 208 | 21 => 21 | 105 => 230 | 46 => 172 | 119 => 252 | 139 => 255 | 138 => 254 | n => n, fun | 3 => 4 | 4 => 5 | n => n⟩
theorem Tryz.lays162 : Go.Proofs.Lays.n162 Tryz.prog Tryz.lays162_ren := {
  mixed := by kernel_rfl
  f119 := Tryz.func246.trans (congrArg some (by kernel_rfl))
  f120 := Tryz.func234.trans (congrArg some (by kernel_rfl))
  f137 := Tryz.func84.trans (congrArg some (by kernel_rfl))
  f151 := Tryz.func217.trans (congrArg some (by kernel_rfl))
  f152 := Tryz.func233.trans (congrArg some (by kernel_rfl))
  f162 := Tryz.func148.trans (congrArg some (by kernel_rfl))
  f197 := Tryz.func216.trans (congrArg some (by kernel_rfl))
  f217 := Tryz.func147.trans (congrArg some (by kernel_rfl))
  f224 := Tryz.func244.trans (congrArg some (by kernel_rfl))
  f225 := Tryz.func243.trans (congrArg some (by kernel_rfl))
  f227 := Tryz.func191.trans (congrArg some (by kernel_rfl))
  f228 := Tryz.func215.trans (congrArg some (by kernel_rfl))
  f232 := Tryz.func190.trans (congrArg some (by kernel_rfl))
  f234 := Tryz.func193.trans (congrArg some (by kernel_rfl))
  f236 := Tryz.func195.trans (congrArg some (by kernel_rfl))
  f260 := Tryz.func232.trans (congrArg some (by kernel_rfl))
  f266 := Tryz.func199.trans (congrArg some (by kernel_rfl))
  f271 := Tryz.func218.trans (congrArg some (by kernel_rfl))
  t0 := Tryz.underlying0
  a0 := Tryz.isAgg0
  z0 := Tryz.sizeOf0
  v0 := Tryz.zeroValue0
  t3 := Tryz.underlying3
  a3 := Tryz.isAgg3
  z3 := Tryz.sizeOf3
  v3 := Tryz.zeroValue3
  t4 := Tryz.underlying4
  a4 := Tryz.isAgg4
  z4 := Tryz.sizeOf4
  v4 := Tryz.zeroValue4
  t5 := Tryz.underlying5
  a5 := Tryz.isAgg5
  z5 := Tryz.sizeOf5
  v5 := Tryz.zeroValue5
  t9 := Tryz.underlying9
  a9 := Tryz.isAgg9
  z9 := Tryz.sizeOf9
  v9 := Tryz.zeroValue9
  t21 := Tryz.underlying21
  a21 := Tryz.isAgg21
  z21 := Tryz.sizeOf21
  v21 := Tryz.zeroValue21
  t46 := Tryz.underlying172
  a46 := Tryz.isAgg172
  z46 := Tryz.sizeOf172
  v46 := Tryz.zeroValue172
  t105 := Tryz.underlying230
  a105 := Tryz.isAgg230
  z105 := Tryz.sizeOf230
  v105 := Tryz.zeroValue230
  t116 := Tryz.underlying204
  a116 := Tryz.isAgg204
  z116 := Tryz.sizeOf204
  t117 := Tryz.underlying205
  a117 := Tryz.isAgg205
  z117 := Tryz.sizeOf205
  v117 := Tryz.zeroValue205
  t119 := Tryz.underlying252
  a119 := Tryz.isAgg252
  z119 := Tryz.sizeOf252
  t124 := Tryz.underlying208
  a124 := Tryz.isAgg208
  z124 := Tryz.sizeOf208
  v124 := Tryz.zeroValue208
  t138 := Tryz.underlying254
  a138 := Tryz.isAgg254
  z138 := Tryz.sizeOf254
  v138 := Tryz.zeroValue254
  t139 := Tryz.underlying255
  a139 := Tryz.isAgg255
  z139 := Tryz.sizeOf255
  v139 := Tryz.zeroValue255
  g3 := by kernel_rfl
  g4 := by kernel_rfl }
open Go.RowKit in
theorem Tryz.strings_TrimRight_one (s : ByteArray) (c : UInt8) (hc : c.toNat < 128) (w : World) (hs : s.size ≤ 9223372036854775807) :
    Calls Tryz.prog 148 #[.string s, .string ⟨#[c]⟩] w fun e w' => e = .returned (.string ⟨(Lib.trimRightB s.data.toList c).toArray⟩) ∧ w' = w := Any.strings_TrimRight_one Tryz.lays162 s c hc w hs
def Tryz.lays119_ren : Go.Shelf.Ren := ⟨fun | 119 => 246 | n => n, fun | 21 => 21 | 4 => 4 | n => n, fun | n => n⟩
theorem Tryz.lays119 : Go.Proofs.Lays.n119 Tryz.prog Tryz.lays119_ren := {
  mixed := by kernel_rfl
  f119 := Tryz.func246.trans (congrArg some (by kernel_rfl))
  t4 := Tryz.underlying4
  a4 := Tryz.isAgg4
  z4 := Tryz.sizeOf4
  v4 := Tryz.zeroValue4
  t21 := Tryz.underlying21
  a21 := Tryz.isAgg21
  z21 := Tryz.sizeOf21
  v21 := Tryz.zeroValue21 }
theorem Tryz.utf8_ValidRune (r : Int) (w : World) :
    Calls Tryz.prog 246 #[.int .i32 r] w fun e w' => e = .returned (.bool (Lib.validRune r)) ∧ w' = w := Any.utf8_ValidRune Tryz.lays119 r w
def Tryz.laysM171_ren : Go.Shelf.Ren := ⟨fun | 171 => 104 | 243 => 157 | 246 => 205 | 283 => 224 | 284 => 225 | 285 => 226 | 286 => 227 | 129 => 239 | 317 => 238 | 318 => 240 | 319 => 241 | 320 => 242 | 337 => 247 | 338 => 248 | n => n, fun | 3 => 3 | 9 => 9 | 2 => 2 | 4 => 4 | 171 => 235 | 0 => 0 | 53 => 220 | 37 => 24 | 5 => 5 | 173 => 238 | 212 => 249 | 51 => 217 | 20 => 20 | 213 => 250 | 46 => 172 | 232 => 259 | 233 => 260 | n => n, fun | 17 => 3 | 18 => 6 | 19 => 7 | n => n⟩
theorem Tryz.laysM171 : Go.Proofs.LaysM.n171 Tryz.prog Tryz.laysM171_ren := {
  mixed := by kernel_rfl
  f129 := Tryz.func239.trans (congrArg some (by kernel_rfl))
  f171 := Tryz.func104.trans (congrArg some (by kernel_rfl))
  f243 := Tryz.func157.trans (congrArg some (by kernel_rfl))
  f246 := Tryz.func205.trans (congrArg some (by kernel_rfl))
  f283 := Tryz.func224.trans (congrArg some (by kernel_rfl))
  f284 := Tryz.func225.trans (congrArg some (by kernel_rfl))
  f285 := Tryz.func226.trans (congrArg some (by kernel_rfl))
  f286 := Tryz.func227.trans (congrArg some (by kernel_rfl))
  f317 := Tryz.func238.trans (congrArg some (by kernel_rfl))
  f318 := Tryz.func240.trans (congrArg some (by kernel_rfl))
  f319 := Tryz.func241.trans (congrArg some (by kernel_rfl))
  f320 := Tryz.func242.trans (congrArg some (by kernel_rfl))
  f337 := Tryz.func247.trans (congrArg some (by kernel_rfl))
  f338 := Tryz.func248.trans (congrArg some (by kernel_rfl))
  t0 := Tryz.underlying0
  a0 := Tryz.isAgg0
  z0 := Tryz.sizeOf0
  v0 := Tryz.zeroValue0
  t2 := Tryz.underlying2
  a2 := Tryz.isAgg2
  z2 := Tryz.sizeOf2
  v2 := Tryz.zeroValue2
  t3 := Tryz.underlying3
  a3 := Tryz.isAgg3
  z3 := Tryz.sizeOf3
  v3 := Tryz.zeroValue3
  t4 := Tryz.underlying4
  a4 := Tryz.isAgg4
  z4 := Tryz.sizeOf4
  v4 := Tryz.zeroValue4
  t5 := Tryz.underlying5
  a5 := Tryz.isAgg5
  z5 := Tryz.sizeOf5
  v5 := Tryz.zeroValue5
  t9 := Tryz.underlying9
  a9 := Tryz.isAgg9
  z9 := Tryz.sizeOf9
  v9 := Tryz.zeroValue9
  t20 := Tryz.underlying20
  a20 := Tryz.isAgg20
  z20 := Tryz.sizeOf20
  v20 := Tryz.zeroValue20
  t37 := Tryz.underlying24
  a37 := Tryz.isAgg24
  z37 := Tryz.sizeOf24
  v37 := Tryz.zeroValue24
  t46 := Tryz.underlying172
  a46 := Tryz.isAgg172
  z46 := Tryz.sizeOf172
  v46 := Tryz.zeroValue172
  t51 := Tryz.underlying217
  a51 := Tryz.isAgg217
  z51 := Tryz.sizeOf217
  v51 := Tryz.zeroValue217
  t53 := Tryz.underlying220
  a53 := Tryz.isAgg220
  z53 := Tryz.sizeOf220
  v53 := Tryz.zeroValue220
  t171 := Tryz.underlying235
  a171 := Tryz.isAgg235
  z171 := Tryz.sizeOf235
  v171 := Tryz.zeroValue235
  t173 := Tryz.underlying238
  a173 := Tryz.isAgg238
  z173 := Tryz.sizeOf238
  v173 := Tryz.zeroValue238
  t212 := Tryz.underlying249
  a212 := Tryz.isAgg249
  z212 := Tryz.sizeOf249
  v212 := Tryz.zeroValue249
  t213 := Tryz.underlying250
  a213 := Tryz.isAgg250
  z213 := Tryz.sizeOf250
  t232 := Tryz.underlying259
  a232 := Tryz.isAgg259
  z232 := Tryz.sizeOf259
  v232 := Tryz.zeroValue259
  t233 := Tryz.underlying260
  a233 := Tryz.isAgg260
  z233 := Tryz.sizeOf260
  v233 := Tryz.zeroValue260
  g17 := by kernel_rfl
  g18 := by kernel_rfl
  g19 := by kernel_rfl
  i0 := by kernel_rfl
  i2 := by kernel_rfl
  i3 := by kernel_rfl
  i4 := by kernel_rfl
  i5 := by kernel_rfl
  i9 := by kernel_rfl
  i20 := by kernel_rfl
  i37 := by kernel_rfl
  i46 := by kernel_rfl
  i51 := by kernel_rfl
  i53 := by kernel_rfl
  i171 := by kernel_rfl
  i173 := by kernel_rfl
  i212 := by kernel_rfl
  i232 := by kernel_rfl
  i233 := by kernel_rfl
  m17 := by kernel_rfl
  m18 := by kernel_rfl
  m19 := by kernel_rfl }
open Go.RowKit Go.Sort Go.Lib in
theorem Tryz.strconv_Itoa (n : Int) (h0 : -9223372036854775808 ≤ n) (h1 : n ≤ 9223372036854775807) (w : World) (htab : Lib.TabIs Tryz.prog w "internal/strconv.uint64pow10" .u64 Lib.pow10Tab) :
    Calls Tryz.prog 104 #[.int .i64 n] w fun e w' => e = .returned (.string ⟨(Lib.itoa n).toArray⟩) ∧ ∃ k os, w' = grow (w.drewN k) os := Any.strconv_Itoa Tryz.laysM171 n h0 h1 w htab
def Tryz.lays149_ren : Go.Shelf.Ren := ⟨fun | 149 => 162 | 222 => 208 | n => n, fun | 9 => 9 | 5 => 5 | 3 => 3 | 4 => 4 | n => n, fun | n => n⟩
theorem Tryz.lays149 : Go.Proofs.Lays.n149 Tryz.prog Tryz.lays149_ren := {
  mixed := by kernel_rfl
  f149 := Tryz.func162.trans (congrArg some (by kernel_rfl))
  f222 := Tryz.func208.trans (congrArg some (by kernel_rfl))
  t3 := Tryz.underlying3
  a3 := Tryz.isAgg3
  z3 := Tryz.sizeOf3
  v3 := Tryz.zeroValue3
  t4 := Tryz.underlying4
  a4 := Tryz.isAgg4
  z4 := Tryz.sizeOf4
  v4 := Tryz.zeroValue4
  t5 := Tryz.underlying5
  a5 := Tryz.isAgg5
  z5 := Tryz.sizeOf5
  v5 := Tryz.zeroValue5
  t9 := Tryz.underlying9
  a9 := Tryz.isAgg9
  z9 := Tryz.sizeOf9
  v9 := Tryz.zeroValue9 }
open Go.RowKit Go.Lib in
theorem Tryz.strings_LastIndexByte (s : ByteArray) (c : Int) (hs : s.size < 4611686018427387904) (w : World) :
    Calls Tryz.prog 162 #[.string s, .int .u8 c] w fun e w' => e = .returned (.int .i64 (Lib.lastIndexByte s c)) ∧ w' = w := Any.strings_LastIndexByte Tryz.lays149 s c hs w
def Tryz.lays146_ren : Go.Shelf.Ren := ⟨fun | 146 => 145 | 221 => 198 | 268 => 219 | 138 => 220 | 143 => 221 | 195 => 235 | 197 => 216 | 218 => 236 | 219 => 229 | 260 => 232 | 217 => 147 | 225 => 243 | 224 => 244 | 267 => 245 | 266 => 199 | 314 => 249 | n => n, fun | 9 => 9 | 31 => 167 | 3 => 3 | 4 => 4 | 0 => 0 | 105 => 230 | 21 => 21 | 5 => 5 | 46 => 172 | 119 => 252 | 139 => 255 | 138 => 254 | 146 => 218 | 51 => 217 | n => n, fun | 1 => 2 | 3 => 4 | 4 => 5 | n => n⟩
theorem Tryz.lays146 : Go.Proofs.Lays.n146 Tryz.prog Tryz.lays146_ren := {
  mixed := by kernel_rfl
  f138 := Tryz.func220.trans (congrArg some (by kernel_rfl))
  f143 := Tryz.func221.trans (congrArg some (by kernel_rfl))
  f146 := Tryz.func145.trans (congrArg some (by kernel_rfl))
  f195 := Tryz.func235.trans (congrArg some (by kernel_rfl))
  f197 := Tryz.func216.trans (congrArg some (by kernel_rfl))
  f217 := Tryz.func147.trans (congrArg some (by kernel_rfl))
  f218 := Tryz.func236.trans (congrArg some (by kernel_rfl))
  f219 := Tryz.func229.trans (congrArg some (by kernel_rfl))
  f221 := Tryz.func198.trans (congrArg some (by kernel_rfl))
  f224 := Tryz.func244.trans (congrArg some (by kernel_rfl))
  f225 := Tryz.func243.trans (congrArg some (by kernel_rfl))
  f260 := Tryz.func232.trans (congrArg some (by kernel_rfl))
  f266 := Tryz.func199.trans (congrArg some (by kernel_rfl))
  f267 := Tryz.func245.trans (congrArg some (by kernel_rfl))
  f268 := Tryz.func219.trans (congrArg some (by kernel_rfl))
  f314 := Tryz.func249.trans (congrArg some (by kernel_rfl))
  t0 := Tryz.underlying0
  a0 := Tryz.isAgg0
  z0 := Tryz.sizeOf0
  v0 := Tryz.zeroValue0
  t3 := Tryz.underlying3
  a3 := Tryz.isAgg3
  z3 := Tryz.sizeOf3
  v3 := Tryz.zeroValue3
  t4 := Tryz.underlying4
  a4 := Tryz.isAgg4
  z4 := Tryz.sizeOf4
  v4 := Tryz.zeroValue4
  t5 := Tryz.underlying5
  a5 := Tryz.isAgg5
  z5 := Tryz.sizeOf5
  v5 := Tryz.zeroValue5
  t9 := Tryz.underlying9
  a9 := Tryz.isAgg9
  z9 := Tryz.sizeOf9
  v9 := Tryz.zeroValue9
  t21 := Tryz.underlying21
  a21 := Tryz.isAgg21
  z21 := Tryz.sizeOf21
  v21 := Tryz.zeroValue21
  t31 := Tryz.underlying167
  a31 := Tryz.isAgg167
  z31 := Tryz.sizeOf167
  v31 := Tryz.zeroValue167
  t46 := Tryz.underlying172
  a46 := Tryz.isAgg172
  z46 := Tryz.sizeOf172
  v46 := Tryz.zeroValue172
  t51 := Tryz.underlying217
  a51 := Tryz.isAgg217
  z51 := Tryz.sizeOf217
  v51 := Tryz.zeroValue217
  t105 := Tryz.underlying230
  a105 := Tryz.isAgg230
  z105 := Tryz.sizeOf230
  v105 := Tryz.zeroValue230
  t119 := Tryz.underlying252
  a119 := Tryz.isAgg252
  z119 := Tryz.sizeOf252
  t138 := Tryz.underlying254
  a138 := Tryz.isAgg254
  z138 := Tryz.sizeOf254
  v138 := Tryz.zeroValue254
  t139 := Tryz.underlying255
  a139 := Tryz.isAgg255
  z139 := Tryz.sizeOf255
  v139 := Tryz.zeroValue255
  t146 := Tryz.underlying218
  a146 := Tryz.isAgg218
  z146 := Tryz.sizeOf218
  v146 := Tryz.zeroValue218
  g1 := by kernel_rfl
  g3 := by kernel_rfl
  g4 := by kernel_rfl }
open Go.RowKit Go.Lib in
theorem Tryz.strings_Split (s sep : ByteArray) (m : Int) (w : World) (hs : s.size < 4294967281) (hm : w.cell? ⟨2, 0, none⟩ = some (.int .i64 m)) (h1 : 1 ≤ sep.size) :
    Calls Tryz.prog 145 #[.string s, .string sep] w fun e w' =>
      e = .returned (.slice (some ⟨w.heap.size, 0, none⟩) (Lib.countB s sep + 1) (Lib.countB s sep + 1)) ∧ w' = w.alloc (.cells ((Lib.splitB sep 0 (Lib.countB s sep) s).map Value.string).toArray 9) := Any.strings_Split Tryz.lays146 (by kernel_rfl) s sep m w hs hm h1
def Tryz.lays153_ren : Go.Shelf.Ren := ⟨fun | 153 => 222 | 152 => 233 | 226 => 237 | 227 => 191 | 228 => 215 | 137 => 84 | 119 => 246 | 224 => 244 | 225 => 243 | 217 => 147 | 266 => 199 | n => n, fun | 9 => 9 | 3 => 3 | 4 => 4 | 5 => 5 | 21 => 21 | 117 => 205 | 116 => 204 | 0 => 0 | 46 => 172 | 124 => 208 | n => n, fun | n => n⟩
theorem Tryz.lays153 : Go.Proofs.Lays.n153 Tryz.prog Tryz.lays153_ren := {
  mixed := by kernel_rfl
  f119 := Tryz.func246.trans (congrArg some (by kernel_rfl))
  f137 := Tryz.func84.trans (congrArg some (by kernel_rfl))
  f152 := Tryz.func233.trans (congrArg some (by kernel_rfl))
  f153 := Tryz.func222.trans (congrArg some (by kernel_rfl))
  f217 := Tryz.func147.trans (congrArg some (by kernel_rfl))
  f224 := Tryz.func244.trans (congrArg some (by kernel_rfl))
  f225 := Tryz.func243.trans (congrArg some (by kernel_rfl))
  f226 := Tryz.func237.trans (congrArg some (by kernel_rfl))
  f227 := Tryz.func191.trans (congrArg some (by kernel_rfl))
  f228 := Tryz.func215.trans (congrArg some (by kernel_rfl))
  f266 := Tryz.func199.trans (congrArg some (by kernel_rfl))
  t0 := Tryz.underlying0
  a0 := Tryz.isAgg0
  z0 := Tryz.sizeOf0
  v0 := Tryz.zeroValue0
  t3 := Tryz.underlying3
  a3 := Tryz.isAgg3
  z3 := Tryz.sizeOf3
  v3 := Tryz.zeroValue3
  t4 := Tryz.underlying4
  a4 := Tryz.isAgg4
  z4 := Tryz.sizeOf4
  v4 := Tryz.zeroValue4
  t5 := Tryz.underlying5
  a5 := Tryz.isAgg5
  z5 := Tryz.sizeOf5
  v5 := Tryz.zeroValue5
  t9 := Tryz.underlying9
  a9 := Tryz.isAgg9
  z9 := Tryz.sizeOf9
  v9 := Tryz.zeroValue9
  t21 := Tryz.underlying21
  a21 := Tryz.isAgg21
  z21 := Tryz.sizeOf21
  v21 := Tryz.zeroValue21
  t46 := Tryz.underlying172
  a46 := Tryz.isAgg172
  z46 := Tryz.sizeOf172
  v46 := Tryz.zeroValue172
  t116 := Tryz.underlying204
  a116 := Tryz.isAgg204
  z116 := Tryz.sizeOf204
  t117 := Tryz.underlying205
  a117 := Tryz.isAgg205
  z117 := Tryz.sizeOf205
  v117 := Tryz.zeroValue205
  t124 := Tryz.underlying208
  a124 := Tryz.isAgg208
  z124 := Tryz.sizeOf208
  v124 := Tryz.zeroValue208 }
open Go.RowKit Go.Lib in
theorem Tryz.strings_IndexAny_long (hv116 : ∀ w, (zeroValue 204).run Tryz.prog w = .ok (.agg (Array.replicate 256 (.bool false))) w) (s chars : ByteArray) (w : World) (h2 : 2 ≤ chars.size) (h8 : 8 < s.size) (hs : s.size < 4294967281) (hcs : chars.size < 4294967281) (hascii : ∀ (j : Nat) b, chars.data.toList[j]? = some b → b.toNat < 128) :
    Calls Tryz.prog 222 #[.string s, .string chars] w fun e w' => e = .returned (.int .i64 (Lib.indexAny s.data.toList chars.data.toList)) ∧ w' = ((w.alloc (.cells (Lib.setCells chars.data.toList) 204)).alloc (.cells (Lib.setCells chars.data.toList) 204)) := Any.strings_IndexAny_long Tryz.lays153 hv116 (by kernel_rfl) s chars w h2 h8 hs hcs hascii
def Tryz.lays105_ren : Go.Shelf.Ren := ⟨fun | 105 => 98 | 212 => 151 | 99 => 133 | 165 => 152 | 166 => 93 | 170 => 153 | 169 => 94 | 263 => 202 | 264 => 203 | 206 => 196 | 240 => 150 | 241 => 204 | 276 => 201 | 277 => 223 | n => n, fun | 9 => 9 | 3 => 3 | 4 => 4 | 20 => 20 | 0 => 0 | 46 => 172 | 109 => 173 | 5 => 5 | 72 => 124 | 76 => 89 | 51 => 217 | 146 => 218 | 53 => 220 | 148 => 221 | 70 => 122 | 37 => 24 | 75 => 88 | 127 => 171 | 164 => 215 | 80 => 126 | n => n, fun | n => n⟩
theorem Tryz.lays105 : Go.Proofs.Lays.n105 Tryz.prog Tryz.lays105_ren := {
  mixed := by kernel_rfl
  f99 := Tryz.func133.trans (congrArg some (by kernel_rfl))
  f105 := Tryz.func98.trans (congrArg some (by kernel_rfl))
  f165 := Tryz.func152.trans (congrArg some (by kernel_rfl))
  f166 := Tryz.func93.trans (congrArg some (by kernel_rfl))
  f169 := Tryz.func94.trans (congrArg some (by kernel_rfl))
  f170 := Tryz.func153.trans (congrArg some (by kernel_rfl))
  f206 := Tryz.func196.trans (congrArg some (by kernel_rfl))
  f212 := Tryz.func151.trans (congrArg some (by kernel_rfl))
  f240 := Tryz.func150.trans (congrArg some (by kernel_rfl))
  f241 := Tryz.func204.trans (congrArg some (by kernel_rfl))
  f263 := Tryz.func202.trans (congrArg some (by kernel_rfl))
  f264 := Tryz.func203.trans (congrArg some (by kernel_rfl))
  f276 := Tryz.func201.trans (congrArg some (by kernel_rfl))
  f277 := Tryz.func223.trans (congrArg some (by kernel_rfl))
  t0 := Tryz.underlying0
  a0 := Tryz.isAgg0
  z0 := Tryz.sizeOf0
  v0 := Tryz.zeroValue0
  t3 := Tryz.underlying3
  a3 := Tryz.isAgg3
  z3 := Tryz.sizeOf3
  v3 := Tryz.zeroValue3
  t4 := Tryz.underlying4
  a4 := Tryz.isAgg4
  z4 := Tryz.sizeOf4
  v4 := Tryz.zeroValue4
  t5 := Tryz.underlying5
  a5 := Tryz.isAgg5
  z5 := Tryz.sizeOf5
  v5 := Tryz.zeroValue5
  t9 := Tryz.underlying9
  a9 := Tryz.isAgg9
  z9 := Tryz.sizeOf9
  v9 := Tryz.zeroValue9
  t20 := Tryz.underlying20
  a20 := Tryz.isAgg20
  z20 := Tryz.sizeOf20
  v20 := Tryz.zeroValue20
  t37 := Tryz.underlying24
  a37 := Tryz.isAgg24
  z37 := Tryz.sizeOf24
  v37 := Tryz.zeroValue24
  t46 := Tryz.underlying172
  a46 := Tryz.isAgg172
  z46 := Tryz.sizeOf172
  v46 := Tryz.zeroValue172
  t51 := Tryz.underlying217
  a51 := Tryz.isAgg217
  z51 := Tryz.sizeOf217
  v51 := Tryz.zeroValue217
  t53 := Tryz.underlying220
  a53 := Tryz.isAgg220
  z53 := Tryz.sizeOf220
  v53 := Tryz.zeroValue220
  t70 := Tryz.underlying122
  a70 := Tryz.isAgg122
  z70 := Tryz.sizeOf122
  v70 := Tryz.zeroValue122
  t72 := Tryz.underlying124
  a72 := Tryz.isAgg124
  z72 := Tryz.sizeOf124
  v72 := Tryz.zeroValue124
  t75 := Tryz.underlying88
  a75 := Tryz.isAgg88
  z75 := Tryz.sizeOf88
  v75 := Tryz.zeroValue88
  t76 := Tryz.underlying89
  a76 := Tryz.isAgg89
  z76 := Tryz.sizeOf89
  v76 := Tryz.zeroValue89
  t109 := Tryz.underlying173
  a109 := Tryz.isAgg173
  z109 := Tryz.sizeOf173
  v109 := Tryz.zeroValue173
  t127 := Tryz.underlying171
  a127 := Tryz.isAgg171
  z127 := Tryz.sizeOf171
  v127 := Tryz.zeroValue171
  t146 := Tryz.underlying218
  a146 := Tryz.isAgg218
  z146 := Tryz.sizeOf218
  v146 := Tryz.zeroValue218
  t148 := Tryz.underlying221
  a148 := Tryz.isAgg221
  z148 := Tryz.sizeOf221
  v148 := Tryz.zeroValue221
  t164 := Tryz.underlying215
  a164 := Tryz.isAgg215
  z164 := Tryz.sizeOf215
  v164 := Tryz.zeroValue215 }
theorem Tryz.Builder_Extra_105 : Builder.Extra Tryz.prog Tryz.lays105_ren := {
  sizeBuilder := by kernel_rfl
  liesBuilder := by kernel_rfl
  t5 := Tryz.underlying5
  a5 := Tryz.isAgg5
  z5 := Tryz.sizeOf5
  v5 := Tryz.zeroValue5
  infoByte := by kernel_rfl
  cellsByte := by kernel_rfl
  sizeByte := by kernel_rfl
  neB5 := by decide }
open Go.RowKit Go.Lib in
theorem Tryz.strings_Repeat (s : ByteArray) (c : Nat) (w : World) (hc : c ≤ 9223372036854775807) (hlen : s.size * c ≤ 140737488355328) :
    Calls Tryz.prog 98 #[.string s, .int .i64 c] w fun e w' => e = .returned (.string ⟨(Lib.repeatL s.data.toList c).toArray⟩) ∧ Below w.heap.size w w' := Any.strings_Repeat Tryz.lays105 Tryz.Builder_Extra_105 s c w hc hlen
end Go.Proofs
namespace Go.Creel
open Go.RowKit
theorem tabIs_laid {P : Program} {W : World} {name : String} {k : IntKind} {zs : List Int} {g : Nat} {t e : TypeId} {n : Nat}
    (hg : P.globalNamed name = some g) (hty : (P.globals[g]?).map (·.type) = some t) (ht : P.underlying t = some (.array n e)) (he : P.underlying e = some (.int k)) (hce : P.cellsOf e = 1) (hct : P.cellsOf t = n) :
    ∀ (laid : List (String × DataW Unit)) (ps : List MemPlace) (i : Nat), DataW.LaidVars P W laid ps → laid[i]? = some (name, Lib.tabData k zs) → Lib.TabIs P W name k zs
  | [], _, i, _, hi => by simp at hi
  | (n', d) :: r, ps, 0, h, hi => by
    obtain ⟨g', t', cs, fuel, p, q, hg', ht', hvar, hd, _, _⟩ := h
    simp only [List.getElem?_cons_zero, Option.some.injEq, Prod.mk.injEq] at hi
    obtain ⟨rfl, rfl⟩ := hi
    obtain rfl := Option.some.inj (hg.symm.trans hg')
    obtain rfl := Option.some.inj (hty.symm.trans ht')
    unfold Lib.TabIs
    rw [hvar, ← Lib.cells_of_tab ht he hce hct hd]
  | (n', d) :: r, ps, i + 1, h, hi => by
    obtain ⟨g', t', cs, fuel, p, q, hg', ht', hvar, hd, hr, _⟩ := h
    exact tabIs_laid hg hty ht he hce hct r q i hr (by simpa using hi)
theorem tabIs_below {P : Program} {n : String} {g : Nat} {k : IntKind} {zs : List Int} {w w' : World} (hg : P.globalNamed n = some g) (h : Lib.TabIs P w n k zs) (hb : Below w.heap.size w w') : Lib.TabIs P w' n k zs := by
  unfold Lib.TabIs World.var? at h ⊢
  rw [hg] at h ⊢
  simp only [Option.bind_some] at h ⊢
  have hlt : g < w.heap.size := by
    rcases Nat.lt_or_ge g w.heap.size with h' | h'
    · exact h'
    · rw [Array.getElem?_eq_none h'] at h; cases h
  rw [hb.block g hlt]
  exact h
theorem below_more (w : World) (k : Nat) (os : Array Obj) : Below w.heap.size w (Go.Sort.grow (w.drewN k) os) :=
  ⟨rfl, rfl, rfl, by simp [Go.Sort.grow], fun b hb => by simp [Go.Sort.grow, Array.getElem?_append_left hb]⟩
end Go.Creel
namespace Go.Proofs.YtaffgndickdbiaaGreatDoor
open Go.Creel Go.RowKit
def Pow10 (w : World) : Prop := Lib.TabIs Tryz.prog w "internal/strconv.uint64pow10" .u64 Lib.pow10Tab
theorem Pow10.below {w w' : World} (h : Pow10 w) (hb : Below w.heap.size w w') : Pow10 w' := tabIs_below (g := 3) (by kernel_rfl) h hb
theorem Itoa_any (n : Int) (w : World) (hn : i64 n) (hT : Pow10 w) :
    Calls Tryz.prog 104 #[.int .i64 n] w fun e w' => e = .returned (.string (ofL (Lib.itoa n))) ∧ Below w.heap.size w w' :=
  (Tryz.strconv_Itoa n hn.1 hn.2 w hT).mono fun e w' ⟨he, k, os, hw⟩ => ⟨he, by rw [hw]; exact below_more w k os⟩
end Go.Proofs.YtaffgndickdbiaaGreatDoor
