/-
  path.In, path.Compare and the reference PathIn.
-/
import Derived.Test.YtiiojjhfncefgaaDoorPathCmp
namespace Go.Creel
set_option linter.unusedVariables false
open Go.RowKit
def pathIn (s d : ByteArray) : Bool := if d.size = 0 then !decide (s.size = 0) else Lib.hasPrefix s.data.toList (d.data.toList ++ [47])
/-- how the reference spells it -/
theorem pathIn_ref {s d : ByteArray} (h : d.size ≠ 0) : pathIn s d = (decide (d.size < s.size) && ((s.extract 0 d.size).toList == d.toList) && decide (byt s d.size = 47)) := by
  unfold pathIn
  rw [if_neg h, Bool.eq_iff_iff]
  unfold Lib.hasPrefix
  rw [List.isPrefixOf_iff_prefix]
  simp only [Bool.and_eq_true, decide_eq_true_eq, beq_iff_eq]
  have hsz : s.size = s.data.toList.length := Lib.size_eq s
  have hdz : d.size = d.data.toList.length := Lib.size_eq d
  constructor
  · rintro ⟨t, ht⟩
    have hlt : d.size < s.size := by
      have := congrArg List.length ht
      rw [List.length_append, List.length_append] at this
      simp at this
      omega
    refine ⟨⟨hlt, ?_⟩, ?_⟩
    · have e : s.data.toList.take d.data.toList.length = d.data.toList := by
        rw [← ht, List.append_assoc]
        exact List.take_left
      rw [Lib.toList_data, Lib.toList_data, Lib.extract_data, List.drop_zero, Nat.sub_zero, hdz, e]
    · have e : s.data.toList[d.size]? = some 47 := by
        rw [← ht, List.append_assoc, hdz, List.getElem?_append_right (Nat.le_refl _)]
        simp
      exact (get_byt s d.size hlt 47).1 ((List.getElem_eq_iff _).2 e)
  · rintro ⟨⟨hlt, h1⟩, h2⟩
    rw [Lib.toList_data, Lib.toList_data, Lib.extract_data] at h1
    simp at h1
    refine ⟨s.data.toList.drop (d.size + 1), ?_⟩
    have e := (get_byt s d.size hlt 47).2 h2
    rw [List.append_assoc, List.singleton_append, ← e, ← List.drop_eq_getElem_cons, ← h1, List.take_append_drop]
end Go.Creel
namespace Go.Proofs.YtiiojjhfncefgaaDoor
set_option linter.unusedVariables false
set_option linter.unusedSimpArgs false
open Go.Creel Go.RowKit
set_option maxRecDepth 100000 in
theorem In_any (s d : ByteArray) (w : World) (hd : d.size ≤ 4000000000) :
    Calls Tryd.prog 64 #[.string s, .string d] w fun e w' => e = .returned (.bool (pathIn s d)) ∧ w = w' := by
  by_cases h0 : d.size = 0
  · have HF := Lib.hid (show pathIn s d = !decide (s.size = 0) by unfold pathIn; rw [if_pos h0])
    have he := empty_t h0
    by_cases h1 : s.size = 0
    · have he1 := empty_t h1
      have H1 := Lib.hid h1
      have HP : Hid (Lib.hasPrefix s.data.toList (d ++ ⟨#[47]⟩).data.toList = false) := Lib.hid (by
        have e1 : s.data.toList = [] := List.eq_nil_of_length_eq_zero (by rw [← Lib.size_eq s]; exact h1)
        have e2 : d.data.toList = [] := List.eq_nil_of_length_eq_zero (by rw [← Lib.size_eq d]; exact h0)
        unfold Lib.hasPrefix
        rw [e1]
        simp [e2])
      clear h0 h1
      go_enter Tryd.func64, Tryd.ntmps64
      go_wp2_with (go_at_call 101; refine (Tryd.strings_HasPrefix _ _ _).mono ?_; rintro e w' ⟨rfl, rfl⟩; rw [HP.out])
      go_ret
      exact ⟨by rw [HF.out]; simp [H1.out], rfl⟩
    · have he1 := empty_f h1
      have H1 := Lib.hid h1
      clear h0 h1
      go_enter Tryd.func64, Tryd.ntmps64
      go_wp2
      go_ret
      exact ⟨by rw [HF.out]; simp [H1.out], rfl⟩
  · have he := empty_f h0
    have HF := Lib.hid (show pathIn s d = Lib.hasPrefix s.data.toList (d ++ ⟨#[47]⟩).data.toList by
      unfold pathIn; rw [if_neg h0]; simp)
    clear h0
    go_enter Tryd.func64, Tryd.ntmps64
    go_wp2_with (go_at_call 101; refine (Tryd.strings_HasPrefix _ _ _).mono ?_; rintro e w' ⟨rfl, rfl⟩)
    go_ret
    exact ⟨by rw [HF.out]; simp, rfl⟩
set_option maxRecDepth 100000 in
theorem PathIn_any (s d : ByteArray) (w : World) (hs : s.size ≤ 4000000000) (hd : d.size ≤ 4000000000) :
    Calls Tryd.prog 66 #[.string s, .string d] w fun e w' => e = .returned (.bool (pathIn s d)) ∧ Below w.heap.size w w' := by
  by_cases h0 : d.size = 0
  · have HF := Lib.hid (show pathIn s d = !decide (s.size = 0) by unfold pathIn; rw [if_pos h0])
    have he := empty_t h0
    have H0 := Lib.hid h0
    clear h0
    by_cases h1 : s.size = 0
    · have he1 := empty_t h1
      have H1 := Lib.hid h1
      clear h1
      go_enter Tryd.func66, Tryd.ntmps66
      go_wp2
      go_ret
      exact ⟨by rw [HF.out]; simp [H1.out, he1], Below.refl _ _⟩
    · have he1 := empty_f h1
      have H1 := Lib.hid h1
      clear h1
      go_enter Tryd.func66, Tryd.ntmps66
      go_wp2
      go_ret
      exact ⟨by rw [HF.out]; simp [H1.out, he1], Below.refl _ _⟩
  · have HF := Lib.hid (pathIn_ref (s := s) h0)
    have he := empty_f h0
    clear h0
    by_cases hlt : d.size < s.size
    · have hb0 : (((s[d.size].toNat : Nat) : Int) == 47) = decide (byt s d.size = 47) := by
        rw [← byt_get s d.size hlt, Bool.eq_iff_iff, beq_iff_eq, decide_eq_true_eq]
        omega
      have HL := Lib.hid hlt
      by_cases hq : (s.extract 0 d.size).toList = d.toList
      · have HQ := Lib.hid hq
        clear hq
        generalize decide (byt s d.size = 47) = z at *
        have HZ := Lib.hid hb0
        clear hb0
        go_enter Tryd.func66, Tryd.ntmps66
        go_wp2
        · go_ret
          exact ⟨by rw [HF.out]; simp [HL.out, HQ.out, HZ.out], Below.refl _ _⟩
      · have HQ := Lib.hid hq
        clear hq hb0
        go_enter Tryd.func66, Tryd.ntmps66
        go_wp2
        · go_ret
          exact ⟨by rw [HF.out]; simp [HQ.out], Below.refl _ _⟩
    · go_enter Tryd.func66, Tryd.ntmps66
      go_wp2
      go_ret
      exact ⟨by rw [HF.out]; simp [hlt], Below.refl _ _⟩
end Go.Proofs.YtiiojjhfncefgaaDoor
