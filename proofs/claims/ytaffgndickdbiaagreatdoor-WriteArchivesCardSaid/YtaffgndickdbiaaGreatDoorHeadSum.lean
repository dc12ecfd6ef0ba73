/-
  head.Sum and its reference: the sum of a block's bytes, its own field as blanks.
-/
import Derived.Test.YtaffgndickdbiaaGreatDoorData
namespace Go.Creel
open Go.RowKit
/-- the sum of the first k bytes, blanks for the sum's own field -/
def hsum (s : ByteArray) : Nat → Int
  | 0 => 0
  | k + 1 => hsum s k + (if 148 ≤ k ∧ k < 156 then 32 else byt s k)
theorem hsum_bd (s : ByteArray) (k : Nat) : 0 ≤ hsum s k ∧ hsum s k ≤ 255 * k := by
  induction k with
  | zero => simp [hsum]
  | succ k ih =>
    have := byt_lt s k
    simp only [hsum]; split <;> omega
/-- the program's way: 256 first, then all bytes outside the field -/
def psum (s : ByteArray) : Nat → Int
  | 0 => 256
  | k + 1 => psum s k + (if 148 ≤ k ∧ k < 156 then 0 else byt s k)
theorem psum_bd (s : ByteArray) (k : Nat) : 0 ≤ psum s k ∧ psum s k ≤ 256 + 255 * k := by
  induction k with
  | zero => simp [psum]
  | succ k ih =>
    have := byt_lt s k
    simp only [psum]; split <;> omega
theorem psum_hsum (s : ByteArray) (k : Nat) : psum s k = hsum s k + 256 - 32 * (if k < 148 then 0 else if k < 156 then (k : Int) - 148 else 8) := by
  induction k with
  | zero => simp [psum, hsum]
  | succ k ih =>
    simp only [psum, hsum, ih]
    repeat' split
    all_goals omega
theorem psum_all (s : ByteArray) : psum s 512 = hsum s 512 := by rw [psum_hsum]; simp
/-- head.Sum's answer -/
def headSum (s : ByteArray) : Int × Int := if s.size = 512 then (hsum s 512, 0) else (0, 1)
theorem headSum_bd {s : ByteArray} (h : s.size = 512) : 0 ≤ (headSum s).1 ∧ (headSum s).1 ≤ 130560 := by
  unfold headSum
  rw [if_pos h]
  have := hsum_bd s 512
  exact ⟨this.1, by have := this.2; simpa using this⟩
end Go.Creel

namespace Go.Proofs.YtaffgndickdbiaaGreatDoor
set_option linter.unusedVariables false
open Go.Creel Go.RowKit
set_option maxRecDepth 100000 in
set_option maxHeartbeats 400000 in
theorem HeadSum_any (s : ByteArray) (w : World) (hs : s.size ≤ maxLen) :
    Calls Tryz.prog 110 #[.string s] w fun e w' => e = .returned (.tuple #[.int .i64 (headSum s).1, .int .i64 (headSum s).2]) ∧ w = w' := by
  unfold maxLen at hs
  by_cases h : s.size = 512
  · have HF := Lib.hid (show headSum s = (hsum s 512, 0) by simp [headSum, h])
    have h1 : ((s.size : Int) != 512) = false := by simp [h]
    have H := Lib.hid h
    clear h
    go_enter Tryz.func110, Tryz.ntmps110
    go_wp2
    go_loop [4, 5] (fun n i => ∃ k : Nat, k ≤ 512 ∧ i = .int .i64 k ∧ n = .int .i64 (hsum s k)) (fun _ i => 512 - (intOf i).toNat)
    case atStart => exact ⟨0, by omega, rfl, rfl⟩
    case round =>
      obtain ⟨k, hk, rfl, rfl⟩ := hrel
      have hd := hsum_bd s k
      by_cases hlt : k < 512
      · have hks : k < s.size := by rw [H.out]; exact hlt
        have hb := byt_lt s k
        have HB := Lib.hid (byt_get s k hks)
        have HS := Lib.hid (show hsum s (k+1) = hsum s k + (if 148 ≤ k ∧ k < 156 then 32 else byt s k) from rfl)
        have hb' : s[k].toNat < 256 := UInt8.toNat_lt _
        go_wp2
        all_goals go_round
        all_goals first
          | (case rel => exact ⟨k + 1, by omega, by go_num, by rw [HS.out]; first | (rw [if_pos (by omega)]; rfl) | rw [if_neg (by omega), ← HB.out]⟩)
          | (case measure => simp [intOf]; omega)
      · have hk : k = 512 := by omega
        subst hk
        go_wp2
        go_ret2
        exact ⟨ret_ii HF.out, rfl⟩
  · have HF := Lib.hid (show headSum s = (0, 1) by simp [headSum, h])
    have h1 : ((s.size : Int) != 512) = true := by simp; omega
    go_enter Tryz.func110, Tryz.ntmps110
    go_wp2
    go_ret2
    exact ⟨ret_ii HF.out, rfl⟩
set_option maxRecDepth 100000 in
set_option maxHeartbeats 400000 in
theorem Sum_any (s : ByteArray) (w : World) (hs : s.size ≤ maxLen) :
    Calls Tryz.prog 99 #[.string s] w fun e w' => e = .returned (.tuple #[.int .i64 (headSum s).1, .int .i64 (headSum s).2]) ∧ w = w' := by
  unfold maxLen at hs
  by_cases h : s.size = 512
  · have HF := Lib.hid (show headSum s = (hsum s 512, 0) by simp [headSum, h])
    have h1 : ((s.size : Int) != 512) = false := by simp [h]
    have h2 : s.size < 513 := by omega
    have h3 : 512 ≤ s.size := by omega
    clear h
    go_enter Tryz.func99, Tryz.ntmps99
    go_wp2
    go_loop [4, 5, 11] (fun n _ i => ∃ k : Nat, k ≤ 512 ∧ i = .int .i64 k ∧ n = .int .i64 (psum s k)) (fun _ _ i => 512 - (intOf i).toNat)
    case atStart => exact ⟨0, by omega, rfl, rfl⟩
    case round =>
      obtain ⟨k, hk, rfl, rfl⟩ := hrel
      have hd := psum_bd s k
      by_cases hlt : k < 512
      · have hks : k < s.size := by omega
        have hb := byt_lt s k
        have HB := Lib.hid (byt_get s k hks)
        have HS := Lib.hid (show psum s (k+1) = psum s k + (if 148 ≤ k ∧ k < 156 then 0 else byt s k) from rfl)
        have hb' : s[k].toNat < 256 := UInt8.toNat_lt _
        go_wp2
        all_goals go_round
        all_goals first
          | (case rel => exact ⟨k + 1, by omega, by go_num, by rw [HS.out]; first | (rw [if_pos (by omega)]; simp) | rw [if_neg (by omega), ← HB.out]⟩)
          | (case measure => simp [intOf]; omega)
      · have hk : k = 512 := by omega
        subst hk
        go_wp2
        go_ret2
        exact ⟨ret_ii (by rw [HF.out, psum_all]), rfl⟩
  · have HF := Lib.hid (show headSum s = (0, 1) by simp [headSum, h])
    have h1 : ((s.size : Int) != 512) = true := by simp; omega
    go_enter Tryz.func99, Tryz.ntmps99
    go_wp2
    go_ret2
    exact ⟨ret_ii HF.out, rfl⟩
end Go.Proofs.YtaffgndickdbiaaGreatDoor
