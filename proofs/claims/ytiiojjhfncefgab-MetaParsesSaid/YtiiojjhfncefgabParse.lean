/-
  Texts as modes: the plain words and law.
-/
import Derived.Test.YtiiojjhfncefgabModeRef
namespace Go.Creel
set_option linter.unusedVariables false
set_option linter.unusedSimpArgs false
open Go.RowKit
def bitU (i : Nat) : UInt8 := if i % 3 = 0 then 114 else if i % 3 = 1 then 119 else 120
def smallU (i : Nat) : UInt8 := if i = 8 then 116 else 115
def greatU (i : Nat) : UInt8 := if i = 8 then 84 else 83
/-- what a sign at its place says; none: it may not be -/
def cv (i : Nat) (c : UInt8) : Option Nat :=
  if c = bitU i then some (2 ^ (8 - i)) else if i % 3 = 2 ∧ c = smallU i then some (2 ^ (8 - i) ||| 2 ^ (11 - i / 3)) else if i % 3 = 2 ∧ c = greatU i then some (2 ^ (11 - i / 3)) else if c = 45 then some 0 else none
def bu (s : ByteArray) (i : Nat) : UInt8 := s.data.toList.getD i 0
def orS (s : ByteArray) : Nat → Nat
  | 0 => 0
  | i + 1 => orS s i ||| (cv i (bu s i)).getD 0
def allS (s : ByteArray) : Nat → Bool
  | 0 => true
  | i + 1 => allS s i && (cv i (bu s i)).isSome
def modeOf (s : ByteArray) : Int × Int := if s.size = 9 then (if allS s 9 = true then (((orS s 9 : Nat) : Int), 0) else (0, 3)) else (0, 1)
theorem allS_no {s : ByteArray} {i : Nat} (h : cv i (bu s i) = none) : ∀ {n : Nat}, i < n → allS s n = false
  | 0, hn => absurd hn (by omega)
  | n + 1, hn => by
    by_cases e : i = n
    · subst e; simp [allS, h]
    · simp [allS, allS_no h (n := n) (by omega)]
/-- the reference's modes of one of the three -/
def valR (k x : Nat) : Nat := x % 8 * 8 ^ k + x / 8 * 512 * 2 ^ k
def triR (k x : Nat) : List UInt8 := ((modeL (valR k x)).drop (6 - 3 * k)).take 3
def sumR (k : Nat) (t : List UInt8) : Nat → Nat
  | 0 => 0
  | x + 1 => sumR k t x + (if triR k x = t then valR k x else 0)
def metR (k : Nat) (t : List UInt8) : Nat → Bool
  | 0 => false
  | x + 1 => metR k t x || decide (triR k x = t)
def three (s : ByteArray) (k : Nat) : List UInt8 := (s.data.toList.drop (6 - 3 * k)).take 3
theorem tri_all : ((List.range 3).all fun k => (List.range 16).all fun x => (sumR k (triR k x) 16 == valR k x) && metR k (triR k x) 16 && ((List.range 3).all fun j => ((cv (6 - 3 * k + j) ((triR k x).getD j 0)).isSome)) &&
    ((cv (6 - 3 * k) ((triR k x).getD 0 0)).getD 0 ||| ((cv (6 - 3 * k + 1) ((triR k x).getD 1 0)).getD 0) ||| ((cv (6 - 3 * k + 2) ((triR k x).getD 2 0)).getD 0) == valR k x)) = true := by kernel_rfl
theorem or_all : ((List.range 16).all fun x => (List.range 16).all fun y => (List.range 16).all fun z => (valR 2 x ||| valR 1 y ||| valR 0 z) == valR 2 x + valR 1 y + valR 0 z) = true := by kernel_rfl
theorem valR_all : ((List.range 3).all fun k => (List.range 16).all fun x => decide (valR k x ≤ 4095)) = true := by kernel_rfl
theorem has_all : ((List.range 3).all fun k => ([bitU (6 - 3 * k), 45] : List UInt8).all fun a => ([bitU (6 - 3 * k + 1), 45] : List UInt8).all fun b => ([bitU (6 - 3 * k + 2), smallU (6 - 3 * k + 2), greatU (6 - 3 * k + 2), 45] : List UInt8).all fun c => (List.range 16).any fun x => decide (triR k x = [a, b, c])) = true := by kernel_rfl
theorem of_range {p : Nat → Bool} {n : Nat} (h : (List.range n).all p = true) {i : Nat} (hi : i < n) : p i = true := List.all_eq_true.1 h i (List.mem_range.2 hi)
theorem metR_iff (k : Nat) (t : List UInt8) : ∀ n, metR k t n = true ↔ ∃ x, x < n ∧ triR k x = t
  | 0 => by simp [metR]
  | n + 1 => by
    rw [metR, Bool.or_eq_true, metR_iff k t n, decide_eq_true_iff]
    constructor
    · rintro (⟨x, h1, h2⟩ | h)
      · exact ⟨x, by omega, h2⟩
      · exact ⟨n, by omega, h⟩
    · rintro ⟨x, h1, h2⟩
      by_cases e : x = n
      · subst e; exact .inr h2
      · exact .inl ⟨x, by omega, h2⟩
theorem cv_some {i : Nat} {c : UInt8} (h : (cv i c).isSome = true) : (i % 3 ≠ 2 → c = bitU i ∨ c = 45) ∧ (c = bitU i ∨ c = smallU i ∨ c = greatU i ∨ c = 45) := by
  unfold cv at h
  split at h
  · rename_i e; exact ⟨fun _ => .inl e, .inl e⟩
  · split at h
    · rename_i e; exact ⟨fun q => absurd e.1 q, .inr (.inl e.2)⟩
    · split at h
      · rename_i e; exact ⟨fun q => absurd e.1 q, .inr (.inr (.inl e.2))⟩
      · split at h
        · rename_i e; exact ⟨fun _ => .inr e, .inr (.inr (.inr e))⟩
        · cases h
theorem three_eq (s : ByteArray) (hs : s.size = 9) {k : Nat} (hk : k < 3) : three s k = [bu s (6 - 3 * k), bu s (6 - 3 * k + 1), bu s (6 - 3 * k + 2)] := by
  have hl : s.data.toList.length = 9 := by rw [← Lib.size_eq s]; exact hs
  unfold three bu
  apply List.ext_getElem?
  intro j
  rw [List.getElem?_take, List.getElem?_drop]
  have hg : ∀ i, i < 9 → s.data.toList[i]? = some (s.data.toList.getD i 0) := by
    intro i hi
    rw [List.getD_eq_getElem?_getD, List.getElem?_eq_getElem (by omega)]; rfl
  match j with
  | 0 => rw [if_pos (by omega), hg _ (by omega)]; rfl
  | 1 => rw [if_pos (by omega), hg _ (by omega)]; rfl
  | 2 => rw [if_pos (by omega), hg _ (by omega)]; rfl
  | j + 3 => rw [if_neg (by omega)]; rfl
theorem met_three (s : ByteArray) (hs : s.size = 9) {k : Nat} (hk : k < 3) : metR k (three s k) 16 = ((cv (6 - 3 * k) (bu s (6 - 3 * k))).isSome && (cv (6 - 3 * k + 1) (bu s (6 - 3 * k + 1))).isSome && (cv (6 - 3 * k + 2) (bu s (6 - 3 * k + 2))).isSome) := by
  rw [Bool.eq_iff_iff, metR_iff, three_eq s hs hk]
  constructor
  · rintro ⟨x, hx, he⟩
    have h := of_range (of_range tri_all hk) hx
    simp only [Bool.and_eq_true] at h
    have h2 := fun j (hj : j < 3) => of_range h.1.2 hj
    rw [he] at h2
    have a0 := h2 0 (by omega)
    have a1 := h2 1 (by omega)
    have a2 := h2 2 (by omega)
    simp only [List.getD_cons_zero, List.getD_cons_succ, Nat.add_zero] at a0 a1 a2
    rw [a0, a1, a2]; rfl
  · intro h
    simp only [Bool.and_eq_true] at h
    obtain ⟨⟨a0, a1⟩, a2⟩ := h
    have b0 := (cv_some a0).1 (by omega)
    have b1 := (cv_some a1).1 (by omega)
    have b2 := (cv_some a2).2
    generalize bu s (6 - 3 * k) = a at *
    generalize bu s (6 - 3 * k + 1) = b at *
    generalize bu s (6 - 3 * k + 2) = c at *
    have h := of_range has_all hk
    have h := List.all_eq_true.1 h a (by simpa using b0)
    have h := List.all_eq_true.1 h b (by simpa using b1)
    have h := List.all_eq_true.1 h c (by simpa using b2)
    obtain ⟨x, hx, he⟩ := List.any_eq_true.1 h
    exact ⟨x, List.mem_range.1 hx, of_decide_eq_true he⟩
theorem sum_three (s : ByteArray) (hs : s.size = 9) {k : Nat} (hk : k < 3) (hm : metR k (three s k) 16 = true) : ∃ x, x < 16 ∧ sumR k (three s k) 16 = valR k x ∧
    ((cv (6 - 3 * k) (bu s (6 - 3 * k))).getD 0 ||| (cv (6 - 3 * k + 1) (bu s (6 - 3 * k + 1))).getD 0 ||| (cv (6 - 3 * k + 2) (bu s (6 - 3 * k + 2))).getD 0) = valR k x := by
  obtain ⟨x, hx, he⟩ := (metR_iff _ _ _).1 hm
  have h := of_range (of_range tri_all hk) hx
  simp only [Bool.and_eq_true, beq_iff_eq] at h
  refine ⟨x, hx, ?_, ?_⟩
  · rw [← he]; exact h.1.1.1
  · have h3 := h.2
    rw [he, three_eq s hs hk] at h3
    simpa using h3
/-- what the reference reckons is what the signs say -/
theorem modeOf_ref {s : ByteArray} (hs : s.size = 9) : modeOf s = if metR 2 (three s 2) 16 = true then (if metR 1 (three s 1) 16 = true then (if metR 0 (three s 0) 16 = true then (((sumR 2 (three s 2) 16 + sumR 1 (three s 1) 16 + sumR 0 (three s 0) 16 : Nat) : Int), 0) else (0, 3)) else (0, 3)) else (0, 3) := by
  have m2 := met_three s hs (k := 2) (by omega)
  have m1 := met_three s hs (k := 1) (by omega)
  have m0 := met_three s hs (k := 0) (by omega)
  simp only [Nat.reduceMul, Nat.reduceSub, Nat.reduceAdd] at m2 m1 m0
  have hA : allS s 9 = (metR 2 (three s 2) 16 && metR 1 (three s 1) 16 && metR 0 (three s 0) 16) := by
    rw [m2, m1, m0]
    simp only [allS, Bool.true_and, Bool.and_assoc]
  unfold modeOf
  rw [if_pos hs, hA]
  by_cases h2 : metR 2 (three s 2) 16 = true
  · by_cases h1 : metR 1 (three s 1) 16 = true
    · by_cases h0 : metR 0 (three s 0) 16 = true
      · obtain ⟨x, hx, x1, x2⟩ := sum_three s hs (by omega) h2
        obtain ⟨y, hy, y1, y2⟩ := sum_three s hs (by omega) h1
        obtain ⟨z, hz, z1, z2⟩ := sum_three s hs (by omega) h0
        simp only [Nat.reduceMul, Nat.reduceSub, Nat.reduceAdd] at x2 y2 z2
        rw [h2, h1, h0, x1, y1, z1]
        have e := of_range (of_range (of_range or_all hx) hy) hz
        rw [beq_iff_eq] at e
        rw [← e, ← x2, ← y2, ← z2]
        simp only [orS, Nat.zero_or, Nat.or_assoc]
        rfl
      · simp only [Bool.not_eq_true] at h0; rw [h2, h1, h0]; rfl
    · simp only [Bool.not_eq_true] at h1; rw [h2, h1]; simp
  · simp only [Bool.not_eq_true] at h2; rw [h2]; simp
end Go.Creel
