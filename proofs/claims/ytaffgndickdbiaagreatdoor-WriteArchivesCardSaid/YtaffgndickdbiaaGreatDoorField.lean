/-
  field.Write and its reference.
-/
import Derived.Test.YtaffgndickdbiaaGreatDoorZeros
namespace Go.Creel
set_option linter.unusedVariables false
def fieldText (s : ByteArray) (width : Int) (whole : Bool) : ByteArray × Int :=
  if width < 1 ∨ 512 < width then (ByteArray.empty, 4)
  else if width < s.size ∨ (whole = false ∧ width = s.size) then (ByteArray.empty, 1)
  else if hasB s 0 = true then (ByteArray.empty, 3)
  else (s ++ zerosS (width.toNat - s.size), 0)
end Go.Creel
namespace Go.Proofs.YtaffgndickdbiaaGreatDoor
set_option linter.unusedVariables false
open Go.Creel Go.RowKit
set_option maxRecDepth 100000 in
set_option maxHeartbeats 1000000 in
theorem FieldWrite_any (s : ByteArray) (width : Int) (whole : Bool) (w : World) (hs : s.size ≤ maxLen) (hw : i64 width) :
    Calls Tryz.prog 96 #[.string s, .int .i64 width, .bool whole] w fun e w' => e = .returned (.tuple #[.string (fieldText s width whole).1, .int .i64 (fieldText s width whole).2]) ∧ Below w.heap.size w w' := by
  unfold maxLen at hs
  unfold i64 at hw
  by_cases h1 : width < 1 ∨ 512 < width
  · have HF := Lib.hid (show fieldText s width whole = (ByteArray.empty, 4) by unfold fieldText; rw [if_pos h1])
    have HN := Lib.hid h1
    rcases h1 with h1 | h1
    · have hd : decide (width < 1) = true := by simpa using h1
      go_enter Tryz.func96, Tryz.ntmps96
      go_wp2
      go_ret2
      exact ⟨ret_si HF.out, Below.refl _ _⟩
    · go_enter Tryz.func96, Tryz.ntmps96
      go_wp2
      go_ret2
      exact ⟨ret_si HF.out, Below.refl _ _⟩
  · have a1 : 1 ≤ width := by omega
    have a2 : width ≤ 512 := by omega
    by_cases h2 : width < s.size ∨ (whole = false ∧ width = s.size)
    · have HF := Lib.hid (show fieldText s width whole = (ByteArray.empty, 1) by unfold fieldText; rw [if_neg h1, if_pos h2])
      clear h1
      cases whole with
      | true =>
        have h3 : width < s.size := by simpa using h2
        clear h2
        go_enter Tryz.func96, Tryz.ntmps96
        go_wp2
        go_ret2
        exact ⟨ret_si HF.out, Below.refl _ _⟩
      | false =>
        have h3 : width - 1 < s.size := by rcases h2 with h | ⟨_, h⟩ <;> omega
        clear h2
        go_enter Tryz.func96, Tryz.ntmps96
        go_wp2
        go_ret2
        exact ⟨ret_si HF.out, Below.refl _ _⟩
    · have hix := idx_has s 0
      cases hh : hasB s 0 with
      | true =>
        have HF := Lib.hid (show fieldText s width whole = (ByteArray.empty, 3) by unfold fieldText; rw [if_neg h1, if_neg h2, if_pos hh])
        rw [hh] at hix
        clear h1 hh
        cases whole with
        | true =>
          have h3 : (s.size : Int) ≤ width := by have := h2; simp at this; omega
          clear h2
          go_enter Tryz.func96, Tryz.ntmps96
          go_wp2_with (go_at_call 84; refine (IndexByte_any _ _ _).mono ?_; rintro e w' ⟨rfl, rfl⟩)
          go_ret2
          exact ⟨ret_si HF.out, Below.refl _ _⟩
        | false =>
          have h3 : (s.size : Int) ≤ width - 1 := by have := h2; simp at this; omega
          clear h2
          go_enter Tryz.func96, Tryz.ntmps96
          go_wp2_with (go_at_call 84; refine (IndexByte_any _ _ _).mono ?_; rintro e w' ⟨rfl, rfl⟩)
          go_ret2
          exact ⟨ret_si HF.out, Below.refl _ _⟩
      | false =>
        have HF := Lib.hid (show fieldText s width whole = (s ++ zerosS (width.toNat - s.size), 0) by unfold fieldText; rw [if_neg h1, if_neg h2, if_neg (by rw [hh]; simp)])
        rw [hh] at hix
        have hz : (zerosS (width.toNat - s.size)).size ≤ 512 := by rw [zerosS_size]; omega
        clear h1 hh
        cases whole with
        | true =>
          have h3 : (s.size : Int) ≤ width := by have := h2; simp at this; omega
          clear h2
          go_enter Tryz.func96, Tryz.ntmps96
          go_wp2_with (first | (go_at_call 84; refine (IndexByte_any _ _ _).mono ?_; rintro e w' ⟨rfl, rfl⟩) | (go_at_call 98; refine (Repeat0_any _ _ (by omega) (by omega)).mono ?_; rintro e w' ⟨rfl, hb⟩; have HB := Lib.hid hb; clear hb))
          go_ret2
          exact ⟨ret_si HF.out, HB.out⟩
        | false =>
          have h3 : (s.size : Int) ≤ width - 1 := by have := h2; simp at this; omega
          clear h2
          go_enter Tryz.func96, Tryz.ntmps96
          go_wp2_with (first | (go_at_call 84; refine (IndexByte_any _ _ _).mono ?_; rintro e w' ⟨rfl, rfl⟩) | (go_at_call 98; refine (Repeat0_any _ _ (by omega) (by omega)).mono ?_; rintro e w' ⟨rfl, hb⟩; have HB := Lib.hid hb; clear hb))
          go_ret2
          exact ⟨ret_si HF.out, HB.out⟩
set_option maxRecDepth 100000 in
set_option maxHeartbeats 1000000 in
theorem FieldText_any (s : ByteArray) (width : Int) (whole : Bool) (w : World) (hs : s.size ≤ maxLen) (hw : i64 width) :
    Calls Tryz.prog 107 #[.string s, .int .i64 width, .bool whole] w fun e w' => e = .returned (.tuple #[.string (fieldText s width whole).1, .int .i64 (fieldText s width whole).2]) ∧ w = w' := by
  have hs' := hs
  unfold maxLen at hs
  unfold i64 at hw
  by_cases h1 : width < 1 ∨ 512 < width
  · have HF := Lib.hid (show fieldText s width whole = (ByteArray.empty, 4) by unfold fieldText; rw [if_pos h1])
    rcases h1 with h1 | h1
    · have hd : decide (width < 1) = true := by simpa using h1
      go_enter Tryz.func107, Tryz.ntmps107
      go_wp2
      go_ret2
      exact ⟨ret_si HF.out, rfl⟩
    · go_enter Tryz.func107, Tryz.ntmps107
      go_wp2
      go_ret2
      exact ⟨ret_si HF.out, rfl⟩
  · have a1 : 1 ≤ width := by omega
    have a2 : width ≤ 512 := by omega
    by_cases h2 : width < s.size ∨ (whole = false ∧ width = s.size)
    · have HF := Lib.hid (show fieldText s width whole = (ByteArray.empty, 1) by unfold fieldText; rw [if_neg h1, if_pos h2])
      clear h1
      by_cases h3 : width < s.size
      · clear h2
        go_enter Tryz.func107, Tryz.ntmps107
        go_wp2
        go_ret2
        exact ⟨ret_si HF.out, rfl⟩
      · obtain ⟨rfl, h4⟩ : whole = false ∧ width = s.size := by rcases h2 with h | h; exact absurd h h3; exact h
        have h5 : ((s.size : Int) == width) = true := by rw [beq_iff_eq, h4]
        clear h2 h4
        go_enter Tryz.func107, Tryz.ntmps107
        go_wp2
        go_ret2
        exact ⟨ret_si HF.out, rfl⟩
    · have h3 : (s.size : Int) ≤ width := by omega
      have h4 : whole = true ∨ ((s.size : Int) == width) = false := by
        cases whole with
        | true => exact .inl rfl
        | false => right; rw [beq_eq_false_iff_ne]; intro e; exact h2 (.inr ⟨rfl, e.symm⟩)
      have hz : (zerosS (width.toNat - s.size)).size ≤ 512 := by rw [zerosS_size]; omega
      cases hh : hasB s 0 with
      | true =>
        have HF := Lib.hid (show fieldText s width whole = (ByteArray.empty, 3) by unfold fieldText; rw [if_neg h1, if_neg h2, if_pos hh])
        clear h1 h2
        rcases h4 with rfl | h4
        all_goals
          go_enter Tryz.func107, Tryz.ntmps107
          go_wp2_with (go_at_call 105; refine (has_any _ 0 0 rfl _ hs').mono ?_; rintro e w' ⟨rfl, rfl⟩)
          all_goals (go_ret2; exact ⟨ret_si HF.out, rfl⟩)
      | false =>
        have HF := Lib.hid (show fieldText s width whole = (s ++ zerosS (width.toNat - s.size), 0) by unfold fieldText; rw [if_neg h1, if_neg h2, if_neg (by rw [hh]; simp)])
        clear h1 h2
        rcases h4 with rfl | h4
        all_goals
          go_enter Tryz.func107, Tryz.ntmps107
          go_wp2_with (first | (go_at_call 105; refine (has_any _ 0 0 rfl _ hs').mono ?_; rintro e w' ⟨rfl, rfl⟩) | (go_at_call 60; refine (zeros_any _ _ (by omega) (by omega)).mono ?_; rintro e w' ⟨rfl, rfl⟩))
          all_goals (go_ret2; exact ⟨ret_si HF.out, rfl⟩)
end Go.Proofs.YtaffgndickdbiaaGreatDoor
