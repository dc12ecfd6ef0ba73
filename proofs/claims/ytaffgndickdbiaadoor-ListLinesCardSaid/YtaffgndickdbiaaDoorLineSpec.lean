/-
  A member's line: plain words; two digits; who has it.
-/
import Derived.Test.YtaffgndickdbiaaDoorDayMath
import Derived.Test.YtaffgndickdbiaaDoorMode
import Derived.Test.YtaffgndickdbiaaDoorEntSpec
import Derived.Test.YtaffgndickdbiaaDoorItoa
import Derived.Lib.ItoaLen
namespace Go.Creel
set_option linter.unusedVariables false
set_option linter.unusedSimpArgs false
open Go.RowKit
def twoL (n : Nat) : List UInt8 := [UInt8.ofNat (48 + n / 10), UInt8.ofNat (48 + n % 10)]
theorem itoa_nat (n : Nat) : Lib.itoa (n : Int) = Lib.decDigits n := by unfold Lib.itoa; rw [if_neg (by omega), Int.toNat_natCast]
theorem two_parts {n : Nat} (h : n < 100) : Lib.decDigits (n / 10) ++ Lib.decDigits (n % 10) = twoL n := by
  rw [Lib.decDigits_one (by omega), Lib.decDigits_one (by omega)]; rfl
theorem two_small {n : Nat} (h : n < 10) : 48 :: Lib.decDigits n = twoL n := by
  rw [Lib.decDigits_one h, twoL, show n / 10 = 0 by omega, show n % 10 = n by omega]; rfl
theorem two_big {n : Nat} (h1 : ¬ n < 10) (h : n < 100) : Lib.decDigits n = twoL n := by rw [Lib.decDigits_two h1 h]; rfl
def twoS (n : Nat) : ByteArray := ofL (twoL n)
theorem twoS_size (n : Nat) : (twoS n).size = 2 := by unfold twoS; rw [ofL_size]; rfl
def itoaS (n : Int) : ByteArray := ofL (Lib.itoa n)
theorem itoaS_size {n : Int} (h : i64 n) : (itoaS n).size ≤ 21 := by unfold itoaS; rw [ofL_size]; exact Lib.itoa_length_le n h.1 h.2
/-- who has it: a name, or a number -/
def whoS (s : ByteArray) (n : Int) : ByteArray := if s.size = 0 then itoaS n else s
theorem whoS_t {s : ByteArray} {n : Int} (h : s.size = 0) : whoS s n = itoaS n := if_pos h
theorem whoS_f {s : ByteArray} {n : Int} (h : s.size ≠ 0) : whoS s n = s := if_neg h
theorem dayP_bd (s : Int) : 1 ≤ (dayP s).2.1 ∧ (dayP s).2.1 ≤ 12 ∧ 0 ≤ (dayP s).2.2 ∧ (dayP s).2.2 ≤ 99 := by
  unfold dayP dateD
  dsimp only
  generalize s / 86400 + 719468 = D
  have h0 : 0 ≤ D - 146097 * (D / 146097) := by omega
  have h1 : D - 146097 * (D / 146097) ≤ 146096 := by omega
  generalize D / 146097 = E at *
  generalize D - 146097 * E = o at *
  obtain ⟨hy0, hy1, hd0, hd1⟩ := yoe_bd o h0 h1
  generalize (o - o/1460 + o/36524 - o/146096)/365 = Y at *
  generalize o - (365*Y + Y/4 - Y/100) = doy at *
  split <;> refine ⟨?_, ?_, ?_, ?_⟩ <;> simp only <;> omega
theorem dayP_y (s : Int) (h : -1099511627776 ≤ s) (h2 : s ≤ 1099511627776) : i64 (dayP s).1 := by
  unfold dayP dateD i64
  dsimp only
  have hD0 : -20000000 ≤ s / 86400 + 719468 := by omega
  have hD1 : s / 86400 + 719468 ≤ 20000000 := by omega
  generalize s / 86400 + 719468 = D at *
  have h0 : 0 ≤ D - 146097 * (D / 146097) := by omega
  have h1 : D - 146097 * (D / 146097) ≤ 146096 := by omega
  have he0 : -200 ≤ D / 146097 := by omega
  have he1 : D / 146097 ≤ 200 := by omega
  generalize D / 146097 = E at *
  generalize D - 146097 * E = o at *
  obtain ⟨hy0, hy1, hd0, hd1⟩ := yoe_bd o h0 h1
  generalize (o - o/1460 + o/36524 - o/146096)/365 = Y at *
  split <;> simp only <;> omega
end Go.Creel
namespace Go.Proofs.YtaffgndickdbiaaDoor
set_option linter.unusedVariables false
set_option linter.unusedSimpArgs false
open Go.Creel Go.RowKit
set_option maxRecDepth 100000 in
theorem Two_any (n : Nat) (w : World) (hn : n < 100) (hT : Pow10 w) :
    Calls Tryd.prog 56 #[.int .i64 n] w fun e w' => e = .returned (.string (twoS n)) ∧ Below w.heap.size w w' := by
  have HT := Lib.hid hT
  have HF := Lib.hid (show twoS n = ofL (Lib.itoa ((n : Int) / 10)) ++ ofL (Lib.itoa ((n : Int) % 10)) by
    rw [show ((n : Int) / 10) = ((n / 10 : Nat) : Int) by omega, show ((n : Int) % 10) = ((n % 10 : Nat) : Int) by omega, itoa_nat, itoa_nat, ofL_append, two_parts hn]; rfl)
  have h1 := Lib.itoa_length_le ((n : Int) / 10) (by omega) (by omega)
  have h2 := Lib.itoa_length_le ((n : Int) % 10) (by omega) (by omega)
  rw [← ofL_size] at h1 h2
  clear hT
  go_enter Tryd.func56, Tryd.ntmps56
  go_wp2_with fail
  refine (Itoa_any _ _ (by unfold i64; omega) HT.out).mono ?_
  rintro e w1 ⟨rfl, hb⟩
  have HB1 := Lib.hid hb
  clear hb
  go_wp2_with fail
  refine (Itoa_any _ _ (by unfold i64; omega) (HT.out.below HB1.out)).mono ?_
  rintro e w2 ⟨rfl, hb⟩
  have HB2 := Lib.hid (HB1.out.trans (hb.mono HB1.out.size))
  clear hb
  generalize ofL (Lib.itoa ((n : Int) / 10)) = a at *
  generalize ofL (Lib.itoa ((n : Int) % 10)) = b at *
  go_wp2
  go_ret
  rw [HF.out]
  exact ⟨rfl, HB2.out⟩
set_option maxRecDepth 100000 in
theorem Who_any (s : ByteArray) (n : Int) (w : World) (hn : i64 n) (hT : Pow10 w) :
    Calls Tryd.prog 54 #[.string s, .int .i64 n] w fun e w' => e = .returned (.string (whoS s n)) ∧ Below w.heap.size w w' := by
  have HI := Lib.hid (Itoa_any n w hn hT)
  clear hT
  by_cases h : s.size = 0
  · have HF := Lib.hid (whoS_t (n := n) h)
    have he := empty_t h
    clear h
    go_enter Tryd.func54, Tryd.ntmps54
    go_wp2_with fail
    refine HI.out.mono ?_
    rintro e w1 ⟨rfl, hb⟩
    have HB1 := Lib.hid hb
    clear hb
    go_wp2
    go_ret
    rw [HF.out]
    exact ⟨rfl, HB1.out⟩
  · have HF := Lib.hid (whoS_f (n := n) h)
    have he := empty_f h
    clear h
    go_enter Tryd.func54, Tryd.ntmps54
    go_wp2
    go_ret
    rw [HF.out]
    exact ⟨rfl, Below.refl _ _⟩
set_option maxRecDepth 100000 in
theorem RTwo_any (n : Nat) (w : World) (hn : n < 100) (hT : Pow10 w) :
    Calls Tryd.prog 59 #[.int .i64 n] w fun e w' => e = .returned (.string (twoS n)) ∧ Below w.heap.size w w' := by
  have HI := Lib.hid (Itoa_any (n : Int) w (by unfold i64; omega) hT)
  have h1 := Lib.itoa_length_le (n : Int) (by omega) (by omega)
  rw [← ofL_size] at h1
  clear hT
  by_cases h : n < 10
  · have HF := Lib.hid (show twoS n = (⟨#[48]⟩ : ByteArray) ++ ofL (Lib.itoa (n : Int)) by
      rw [itoa_nat, show (⟨#[48]⟩ : ByteArray) = ofL [48] from rfl, ofL_append]
      unfold twoS
      rw [← two_small h]; rfl)
    have hd : (n : Int) < 10 := by omega
    clear h
    generalize ofL (Lib.itoa (n : Int)) = a at *
    go_enter Tryd.func59, Tryd.ntmps59
    go_wp2_with fail
    refine HI.out.mono ?_
    rintro e w1 ⟨rfl, hb⟩
    have HB1 := Lib.hid hb
    clear hb
    go_wp2
    go_ret
    rw [HF.out]
    exact ⟨rfl, HB1.out⟩
  · have HF := Lib.hid (show twoS n = ofL (Lib.itoa (n : Int)) by
      rw [itoa_nat]
      unfold twoS
      rw [← two_big h hn])
    have hd : ¬ (n : Int) < 10 := by omega
    clear h
    generalize ofL (Lib.itoa (n : Int)) = a at *
    go_enter Tryd.func59, Tryd.ntmps59
    go_wp2_with fail
    refine HI.out.mono ?_
    rintro e w1 ⟨rfl, hb⟩
    have HB1 := Lib.hid hb
    clear hb
    go_wp2
    go_ret
    rw [HF.out]
    exact ⟨rfl, HB1.out⟩
end Go.Proofs.YtaffgndickdbiaaDoor
