/-
  How long a record is that tells how long it is.
-/
import Derived.Lib.ItoaNum
namespace Go.Creel
set_option linter.unusedVariables false
def recN (L : Nat) : Nat := if L + 1 < 10 then L + 1 else if L + 2 < 100 then L + 2 else L + 3
theorem dlen_eq (n : Nat) : (Lib.decDigits n).length = Lib.nDigits n := by
  rw [Lib.decDigits_eq]; simp
theorem dlen1 {n : Nat} (h : n < 10) : (Lib.decDigits n).length = 1 := by rw [dlen_eq]; exact Lib.nDigits_small h
theorem dlen2 {n : Nat} (h : 10 ≤ n) (h2 : n < 100) : (Lib.decDigits n).length = 2 := by rw [dlen_eq]; exact Lib.nDigits_unique 1 n h h2
theorem dlen3 {n : Nat} (h : 100 ≤ n) (h2 : n < 1000) : (Lib.decDigits n).length = 3 := by rw [dlen_eq]; exact Lib.nDigits_unique 2 n h h2
theorem dlen_cases {n : Nat} (h : n < 1000) : ((Lib.decDigits n).length = 1 ∧ n < 10) ∨ ((Lib.decDigits n).length = 2 ∧ 10 ≤ n ∧ n < 100) ∨ ((Lib.decDigits n).length = 3 ∧ 100 ≤ n) := by
  by_cases h1 : n < 10
  · exact .inl ⟨dlen1 h1, h1⟩
  · by_cases h2 : n < 100
    · exact .inr (.inl ⟨dlen2 (by omega) h2, by omega, h2⟩)
    · exact .inr (.inr ⟨dlen3 (by omega) h, by omega⟩)
theorem recN_cases (L : Nat) : (L + 1 < 10 ∧ recN L = L + 1) ∨ (9 ≤ L ∧ L + 2 < 100 ∧ recN L = L + 2) ∨ (98 ≤ L ∧ recN L = L + 3) := by
  unfold recN
  by_cases h : L + 1 < 10
  · exact .inl ⟨h, if_pos h⟩
  · rw [if_neg h]
    by_cases h2 : L + 2 < 100
    · exact .inr (.inl ⟨by omega, h2, if_pos h2⟩)
    · exact .inr (.inr ⟨by omega, if_neg h2⟩)
theorem recN_bd (L : Nat) : L + 1 ≤ recN L ∧ recN L ≤ L + 3 := by have := recN_cases L; omega
theorem recN_fits {L : Nat} (h : L ≤ 900) : recN L = L + (Lib.decDigits (recN L)).length := by
  have hb := recN_cases L
  rcases dlen_cases (show recN L < 1000 by omega) with ⟨e, h1⟩ | ⟨e, h1, h2⟩ | ⟨e, h1⟩ <;> rw [e] <;> omega
theorem recN_first {L n : Nat} (h : L ≤ 900) (hn : n < recN L) : n ≠ L + (Lib.decDigits n).length := by
  have hb := recN_cases L
  rcases dlen_cases (show n < 1000 by omega) with ⟨e, h1⟩ | ⟨e, h1, h2⟩ | ⟨e, h1⟩ <;> rw [e] <;> omega
theorem itoa_nat (n : Nat) : Lib.itoa (n : Int) = Lib.decDigits n := by unfold Lib.itoa; rw [if_neg (by omega), Int.toNat_natCast]
end Go.Creel
