/-
  octal.Most and its reference; power.
-/
import Derived.Test.YtaffgndickdbiaaGreatDoorData
import Derived.Test.YtaffgndickdbiaaGreatDoorPower
namespace Go.Creel
/-- the greatest number of a field, and what is wrong with the width -/
def octMost (width : Int) : Int × Int := if 2 ≤ width ∧ width ≤ 12 then (8 ^ (width - 1).toNat - 1, 0) else (0, 4)
theorem octMost_in {W : Nat} (h1 : 2 ≤ W) (h2 : W ≤ 12) : octMost (W : Int) = (((8 ^ (W - 1) : Nat) : Int) - 1, 0) := by
  have : ((W : Int) - 1).toNat = W - 1 := by omega
  simp only [octMost, this]; rw [if_pos (by omega)]; simp
theorem eleven {n : Int} (h1 : 2 ≤ n) (h2 : n ≤ 12) : n = 2 ∨ n = 3 ∨ n = 4 ∨ n = 5 ∨ n = 6 ∨ n = 7 ∨ n = 8 ∨ n = 9 ∨ n = 10 ∨ n = 11 ∨ n = 12 := by omega
end Go.Creel
namespace Go.Proofs.YtaffgndickdbiaaGreatDoor
set_option linter.unusedVariables false
open Go.Creel Go.RowKit
set_option maxRecDepth 100000 in
set_option maxHeartbeats 800000 in
theorem OctalMost_any (n : Int) (w : World) :
    Calls Tryz.prog 158 #[.int .i64 n] w fun e w' => e = .returned (.tuple #[.int .i64 (octMost n).1, .int .i64 (octMost n).2]) ∧ w = w' := by
  by_cases h : 2 ≤ n ∧ n ≤ 12
  · obtain ⟨h1, h2⟩ := h
    obtain ⟨m, rfl⟩ : ∃ m : Nat, n = (m : Int) := ⟨n.toNat, by omega⟩
    obtain ⟨k, rfl⟩ : ∃ k : Nat, m = k + 1 := ⟨m - 1, by omega⟩
    have HF := Lib.hid (show octMost ((k + 1 : Nat) : Int) = (((8 ^ k : Nat) : Int) - 1, 0) by
      have : (((k + 1 : Nat) : Int) - 1).toNat = k := by omega
      simp only [octMost, this]; rw [if_pos ⟨h1, h2⟩]; simp)
    have hb : 8 ^ k ≤ 8 ^ 11 := Nat.pow_le_pow_right (by decide) (by omega)
    have hb2 : 0 < 8 ^ k := Nat.pow_pos (by decide)
    go_enter Tryz.func158, Tryz.ntmps158
    go_wp2_with fail
    refine (power_any k _ (by omega)).mono ?_
    rintro e w' ⟨rfl, rfl⟩
    generalize 8 ^ k = p at *
    have hb3 : p ≤ 8589934592 := by simpa using hb
    clear hb
    go_wp2
    go_ret2
    exact ⟨ret_ii HF.out, rfl⟩
  · have HF := Lib.hid (show octMost n = (0, 4) by simp only [octMost]; rw [if_neg h])
    by_cases h1 : n < 2
    · have hd : decide (n < 2) = true := by simpa using h1
      go_enter Tryz.func158, Tryz.ntmps158
      go_wp2
      go_ret2
      exact ⟨ret_ii HF.out, rfl⟩
    · have h2 : 12 < n := by omega
      go_enter Tryz.func158, Tryz.ntmps158
      go_wp2
      go_ret2
      exact ⟨ret_ii HF.out, rfl⟩
set_option maxRecDepth 100000 in
set_option maxHeartbeats 2000000 in
theorem Most_any (n : Int) (w : World) :
    Calls Tryz.prog 87 #[.int .i64 n] w fun e w' => e = .returned (.tuple #[.int .i64 (octMost n).1, .int .i64 (octMost n).2]) ∧ w = w' := by
  by_cases h : 2 ≤ n ∧ n ≤ 12
  · obtain ⟨h1, h2⟩ := h
    rcases eleven h1 h2 with rfl | rfl | rfl | rfl | rfl | rfl | rfl | rfl | rfl | rfl | rfl
    all_goals
      clear h1 h2
      go_enter Tryz.func87, Tryz.ntmps87
      go_wp2
      go_ret2
      exact ⟨rfl, rfl⟩
  · have HF := Lib.hid (show octMost n = (0, 4) by simp only [octMost]; rw [if_neg h])
    by_cases h1 : n < 2
    · have hd : decide (n < 2) = true := by simpa using h1
      go_enter Tryz.func87, Tryz.ntmps87
      go_wp2
      go_ret2
      exact ⟨ret_ii HF.out, rfl⟩
    · have h2 : 12 < n := by omega
      go_enter Tryz.func87, Tryz.ntmps87
      go_wp2
      go_ret2
      exact ⟨ret_ii HF.out, rfl⟩
end Go.Proofs.YtaffgndickdbiaaGreatDoor
