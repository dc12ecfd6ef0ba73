/-
  field.Read and its reference.
-/
import Derived.Test.YtiiojjhfncefgabDoorTrim
import Derived.Test.YtiiojjhfncefgabDoorZeros
namespace Go.Creel
set_option linter.unusedVariables false
/-- the place of the first byte 0, or the size -/
def zpos (s : ByteArray) : Nat := if hasB s 0 = true then (firstIdx s 0).toNat else s.size
def allz (s : ByteArray) : Prop := ∀ x ∈ s.data.toList, x = 0
open Classical in
noncomputable def fieldOf (s : ByteArray) (whole : Bool) : ByteArray × Int :=
  if s.size < 1 ∨ 512 < s.size then (ByteArray.empty, 4)
  else if (zpos s = s.size ∧ whole = false) ∨ ¬ allz (s.extract (zpos s) s.size) then (ByteArray.empty, 3)
  else (s.extract 0 (zpos s), 0)
theorem extract_all (s : ByteArray) : s.extract 0 s.size = s := by
  apply ext_bytes
  rw [Lib.extract_data, Lib.size_eq s, List.drop_zero, Nat.sub_zero]
  exact List.take_length
theorem extract_none (s : ByteArray) : (s.extract s.size s.size).data.toList = [] := by
  rw [Lib.extract_data]; simp
theorem zpos_yes {s : ByteArray} {k : Nat} (h1 : k < s.size) (h2 : byt s k = 0) (h3 : ∀ j, j < k → byt s j ≠ 0) : zpos s = k ∧ firstIdx s 0 = k := by
  have hh : hasB s 0 = true := hasB_true h1 h2
  have hg := idx_ge hh
  rcases idx_lt (s := s) (c := 0) with h | ⟨i, hi, h4, h5, h6⟩
  · omega
  · have : i = k := by
      rcases Nat.lt_trichotomy i k with h | h | h
      · exact absurd h5 (h3 i h)
      · exact h
      · exact absurd h2 (h6 k h)
    subst this
    exact ⟨by unfold zpos; rw [if_pos hh, hi]; simp, hi⟩
theorem zpos_no {s : ByteArray} (h : ∀ j, j < s.size → byt s j ≠ 0) : zpos s = s.size ∧ firstIdx s 0 = -1 := by
  have hh : hasB s 0 = false := hasB_false h
  exact ⟨by unfold zpos; rw [if_neg (by rw [hh]; simp)], idx_none hh⟩
theorem zpos_cases (s : ByteArray) : (zpos s = s.size ∧ firstIdx s 0 = -1) ∨ (zpos s < s.size ∧ firstIdx s 0 = zpos s) := by
  cases hh : hasB s 0 with
  | false => exact .inl (zpos_no (fun j hj => hasB_no hh j hj))
  | true =>
    have hg := idx_ge hh
    rcases idx_lt (s := s) (c := 0) with h | ⟨i, hi, h4, h5, h6⟩
    · omega
    · obtain ⟨e1, e2⟩ := zpos_yes h4 h5 h6
      exact .inr ⟨by omega, by rw [e2, e1]⟩
theorem allz_eq {t : ByteArray} {n : Nat} (hn : t.size = n) : t = zerosS n ↔ allz t := by
  constructor
  · intro h x hx
    rw [h] at hx
    unfold zerosS at hx
    rw [ofL_data] at hx
    exact List.eq_of_mem_replicate hx
  · intro h
    apply ext_bytes
    unfold zerosS
    rw [ofL_data, List.eq_replicate_iff]
    exact ⟨(Lib.size_eq t).symm.trans hn, h⟩
theorem fieldOf_range {s : ByteArray} {b : Bool} (h : s.size < 1 ∨ 512 < s.size) : fieldOf s b = (ByteArray.empty, 4) := by unfold fieldOf; rw [if_pos h]
theorem fieldOf_form {s : ByteArray} {b : Bool} (h : ¬ (s.size < 1 ∨ 512 < s.size)) (h2 : (zpos s = s.size ∧ b = false) ∨ ¬ allz (s.extract (zpos s) s.size)) : fieldOf s b = (ByteArray.empty, 3) := by unfold fieldOf; rw [if_neg h, if_pos h2]
theorem fieldOf_yes {s : ByteArray} {b : Bool} (h : ¬ (s.size < 1 ∨ 512 < s.size)) (h2 : ¬ ((zpos s = s.size ∧ b = false) ∨ ¬ allz (s.extract (zpos s) s.size))) : fieldOf s b = (s.extract 0 (zpos s), 0) := by unfold fieldOf; rw [if_neg h, if_neg h2]
theorem sne_t {a b : ByteArray} (h : a ≠ b) : (!(a.toList == b.toList)) = true := by rw [seq_f h]; rfl
theorem sne_f {a b : ByteArray} (h : a = b) : (!(a.toList == b.toList)) = false := by rw [seq_t h]; rfl
end Go.Creel
namespace Go.Proofs.YtiiojjhfncefgabDoor
set_option linter.unusedVariables false
open Go.Creel Go.RowKit
theorem Trim0_yes {s : ByteArray} (h : allz s) (w : World) (hs : s.size ≤ maxLen) :
    Calls Tryd.prog 96 #[.string s, .string ⟨#[0]⟩] w fun e w' => e = .returned (.string ⟨#[]⟩) ∧ Below w.heap.size w w' := by
  refine (Trim0_any s w hs).mono ?_
  rintro e w' ⟨rfl, hb⟩
  rw [trim_empty.2 h]
  exact ⟨rfl, hb⟩
theorem Trim0_no {s : ByteArray} (h : ¬ allz s) (w : World) (hs : s.size ≤ maxLen) :
    Calls Tryd.prog 96 #[.string s, .string ⟨#[0]⟩] w fun e w' => Below w.heap.size w w' ∧ ∃ t : ByteArray, e = .returned (.string t) ∧ t.toList.isEmpty = false := by
  refine (Trim0_any s w hs).mono ?_
  rintro e w' ⟨rfl, hb⟩
  refine ⟨hb, _, rfl, empty_f ?_⟩
  rw [ofL_size]
  intro e
  exact h (trim_empty.1 (List.eq_nil_of_length_eq_zero e))
set_option maxRecDepth 100000 in
set_option maxHeartbeats 1000000 in
theorem FieldRead_any (s : ByteArray) (b : Bool) (w : World) (hs : s.size ≤ maxLen) :
    Calls Tryd.prog 63 #[.string s, .bool b] w fun e w' => e = .returned (.tuple #[.string (fieldOf s b).1, .int .i64 (fieldOf s b).2]) ∧ Below w.heap.size w w' := by
  have hs' := hs
  unfold maxLen at hs
  by_cases h : s.size < 1 ∨ 512 < s.size
  · have HF := Lib.hid (fieldOf_range (b := b) h)
    rcases h with h | h
    · go_enter Tryd.func63, Tryd.ntmps63
      go_wp2
      go_ret2
      exact ⟨ret_si HF.out, Below.refl _ _⟩
    · go_enter Tryd.func63, Tryd.ntmps63
      go_wp2
      go_ret2
      exact ⟨ret_si HF.out, Below.refl _ _⟩
  · have h1 : 1 ≤ s.size := by omega
    have h2 : s.size ≤ 512 := by omega
    have HN := Lib.hid h
    clear h
    rcases zpos_cases s with ⟨hz, hi⟩ | ⟨hz, hi⟩
    · have hall : allz (s.extract (zpos s) s.size) := by
        intro x hx
        rw [hz, extract_none] at hx
        cases hx
      have hd : decide (0 ≤ firstIdx s 0) = false := by rw [hi]; rfl
      cases b with
      | false =>
        have HF := Lib.hid (fieldOf_form (b := false) HN.out (.inl ⟨hz, rfl⟩))
        clear hz hi hall
        go_enter Tryd.func63, Tryd.ntmps63
        go_wp2_with (first | (go_at_call 28; refine (IndexByte_any _ _ _).mono ?_; rintro e w' ⟨rfl, rfl⟩))
        go_ret2
        exact ⟨ret_si HF.out, Below.refl _ _⟩
      | true =>
        have HF := Lib.hid ((fieldOf_yes (b := true) HN.out (by simp [hall])).trans (by rw [hz, extract_all]))
        clear hz hi hall
        go_enter Tryd.func63, Tryd.ntmps63
        go_wp2_with (first | (go_at_call 28; refine (IndexByte_any _ _ _).mono ?_; rintro e w' ⟨rfl, rfl⟩) | (go_at_call 96; refine (Trim0_yes (s := ⟨#[]⟩) (fun x hx => by cases hx) _ (by decide)).mono ?_; rintro e w' ⟨rfl, hb⟩; have HB := Lib.hid hb; clear hb))
        go_ret2
        exact ⟨ret_si HF.out, HB.out⟩
    · have hd : decide (0 ≤ firstIdx s 0) = true := by rw [hi]; simp
      have hne : ((s.extract (zpos s) s.size).toList.isEmpty) = false := empty_f (by simp; omega)
      have hsz : (s.extract (zpos s) s.size).size ≤ maxLen := by unfold maxLen; simp; omega
      by_cases hall : allz (s.extract (zpos s) s.size)
      · have HF := Lib.hid (fieldOf_yes (b := b) HN.out (by simp [hall]; intro e; omega))
        have HT := Lib.hid (fun (w : World) => Trim0_yes hall w hsz)
        clear hall hsz
        generalize zpos s = z at *
        go_enter Tryd.func63, Tryd.ntmps63
        go_wp2_with (go_at_call 28; refine (IndexByte_any _ _ _).mono ?_; rintro e w' ⟨rfl, rfl⟩)
        go_quiet (fail)
        go_wp2_with (go_at_call 96; refine (HT.out _).mono ?_; rintro e w' ⟨rfl, hb⟩; have HB := Lib.hid hb; clear hb)
        go_ret2
        exact ⟨ret_si HF.out, (below_draws w.heap.size _ _).trans HB.out⟩
      · have HF := Lib.hid (fieldOf_form (b := b) HN.out (.inr hall))
        have HT := Lib.hid (fun (w : World) => Trim0_no hall w hsz)
        clear hall hsz
        generalize zpos s = z at *
        go_enter Tryd.func63, Tryd.ntmps63
        go_wp2_with (go_at_call 28; refine (IndexByte_any _ _ _).mono ?_; rintro e w' ⟨rfl, rfl⟩)
        go_quiet (fail)
        go_wp2_with (go_at_call 96; refine (HT.out _).mono ?_; rintro e w' ⟨hb, t, rfl, htt⟩; have HB := Lib.hid hb; clear hb)
        go_ret2
        exact ⟨ret_si HF.out, (below_draws w.heap.size _ _).trans HB.out⟩
end Go.Proofs.YtiiojjhfncefgabDoor
