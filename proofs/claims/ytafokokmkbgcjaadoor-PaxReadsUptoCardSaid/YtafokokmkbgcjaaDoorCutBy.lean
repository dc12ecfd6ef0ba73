/-
  strings.Cut of a text at one byte.
-/
import Derived.Test.YtafokokmkbgcjaaDoorText
import Derived.Test.YtafokokmkbgcjaaDoorShelf
import Derived.Lib.LaidTab
namespace Go.Creel
open Go.RowKit
/-- where a byte stands first -/
def AtByte (s : ByteArray) (c : Nat) (a b i : Nat) : Prop := a ≤ i ∧ i < b ∧ byt s i = c ∧ ∀ j, a ≤ j → j < i → byt s j ≠ c
theorem AtByte.one {s : ByteArray} {c a b i j : Nat} (h : AtByte s c a b i) (k : AtByte s c a b j) : i = j := by
  obtain ⟨h1, h2, h3, h4⟩ := h
  obtain ⟨k1, k2, k3, k4⟩ := k
  rcases Nat.lt_trichotomy i j with e | e | e
  · exact absurd h3 (k4 i h1 e)
  · exact e
  · exact absurd k3 (h4 j k1 e)
end Go.Creel
namespace Go.Proofs.YtafokokmkbgcjaaDoor
set_option linter.unusedVariables false
set_option linter.unusedSimpArgs false
open Go.Creel Go.RowKit
theorem IndexOne_any (s : ByteArray) (c : UInt8) (w : World) :
    Calls Tryd.prog 94 #[.string s, .string ⟨#[c]⟩] w fun e w' => e = .returned (.int .i64 (firstIdx s c)) ∧ w = w' := by
  refine (Any.stringslite_Index_one { Tryd.lays143 with } s c w).mono ?_
  rintro e w' ⟨rfl, rfl⟩
  rw [Lib.firstIdx_eq]
  exact ⟨rfl, rfl⟩
set_option maxRecDepth 100000 in
theorem CutYes_any (s : ByteArray) (c : UInt8) (i : Nat) (w : World) (hs : s.size ≤ maxLen) (hi : firstIdx s c = i) (hl : i < s.size) :
    Calls Tryd.prog 40 #[.string s, .string ⟨#[c]⟩] w fun e w' => e = .returned (.tuple #[.string (s.extract 0 i), .string (s.extract (i + 1) s.size), .bool true]) ∧ ∃ n, w' = w.drewN n := by
  have hI := IndexOne_any s c w
  unfold maxLen at hs
  rw [hi] at hI
  have HI := Lib.hid hI
  clear hI hi
  have hsl : s.size ≤ 9223372036854775807 := by omega
  have H : Calls Tryd.prog 71 #[.string s, .string ⟨#[c]⟩] w fun e w' => e = .returned (.tuple #[.string (s.extract 0 i), .string (s.extract (i + 1) s.size), .bool true]) ∧ ∃ n, w' = w.drewN n := by
    go_enter Tryd.func71, Tryd.ntmps71
    go_wp2_with fail
    refine HI.out.mono ?_
    rintro e w' ⟨rfl, rfl⟩
    go_wp2_with fail
    go_quiet (fail)
    go_wp2
    go_ret3
    exact ⟨rfl, _, rfl⟩
  have H' := Lib.hid H
  clear H HI hl hsl hs
  go_enter Tryd.func40, Tryd.ntmps40
  go_wp2_with fail
  refine H'.out.mono ?_
  rintro e w' ⟨rfl, n, rfl⟩
  go_wp2
  go_ret3
  exact ⟨rfl, _, rfl⟩
set_option maxRecDepth 100000 in
theorem CutNo_any (s : ByteArray) (c : UInt8) (w : World) (hi : firstIdx s c = -1) :
    Calls Tryd.prog 40 #[.string s, .string ⟨#[c]⟩] w fun e w' => e = .returned (.tuple #[.string s, .string ByteArray.empty, .bool false]) ∧ ∃ n, w' = w.drewN n := by
  have hI := IndexOne_any s c w
  rw [hi] at hI
  have HI := Lib.hid hI
  clear hI hi
  have H : Calls Tryd.prog 71 #[.string s, .string ⟨#[c]⟩] w fun e w' => e = .returned (.tuple #[.string s, .string ByteArray.empty, .bool false]) ∧ w' = w := by
    go_enter Tryd.func71, Tryd.ntmps71
    go_wp2_with fail
    refine HI.out.mono ?_
    rintro e w' ⟨rfl, rfl⟩
    go_wp2
    go_ret3
    exact ⟨rfl, rfl⟩
  have H' := Lib.hid H
  clear H HI
  go_enter Tryd.func40, Tryd.ntmps40
  go_wp2_with fail
  refine H'.out.mono ?_
  rintro e w' ⟨rfl, rfl⟩
  go_wp2
  go_ret3
  exact ⟨rfl, 0, rfl⟩
end Go.Proofs.YtafokokmkbgcjaaDoor
