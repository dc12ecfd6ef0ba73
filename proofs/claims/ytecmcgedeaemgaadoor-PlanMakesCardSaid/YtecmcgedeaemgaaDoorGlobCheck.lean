/-
  glob.Check: the program's way.
-/
import Derived.Test.YtecmcgedeaemgaaDoorGlobSet
namespace Go.Creel
set_option linter.unusedVariables false
set_option linter.unusedSimpArgs false
open Go.RowKit
theorem bang_is (q : ByteArray) (h : 1 ≤ q.size) : Lib.hasPrefix (q.extract 1 q.size).data.toList [33] = setNot q 0 := by
  have hd : (q.extract 1 q.size).data.toList = q.data.toList.drop 1 := by
    rw [Lib.extract_data]; exact List.take_of_length_le (by simp)
  have hl := Lib.size_eq q
  unfold setNot Lib.hasPrefix
  rw [hd]
  unfold byt
  cases hq : q.data.toList with
  | nil => rw [hq] at hl; have : q.size = 0 := hl; omega
  | cons a l =>
    cases l with
    | nil => rw [hq] at hl; have h2 : q.size = 1 := hl; rw [h2]; rfl
    | cons b l =>
      rw [hq] at hl
      have h2 : q.size = l.length + 2 := hl
      have h3 : decide (0 + 1 < q.size) = true := decide_eq_true (by omega)
      rw [h3]
      show (((33 : UInt8) == b) && List.isPrefixOf [] l) = (true && (b.toNat == 33))
      rw [Bool.eq_iff_iff]
      simp only [List.isPrefixOf, Bool.and_true, Bool.true_and, beq_iff_eq]
      constructor
      · intro e; rw [← e]; rfl
      · intro e; exact (UInt8.toNat_inj.1 (by rw [e]; rfl)).symm
theorem fail_end {q : ByteArray} (h : q.size ≤ setFrom q 0) : endOf q = -1 := by
  unfold endOf
  have := nextB_ge q 93 (setFrom q 0 + 1)
  rw [if_neg (by unfold setEnd; omega)]
end Go.Creel
namespace Go.Proofs.YtecmcgedeaemgaaDoor
set_option linter.unusedVariables false
set_option linter.unusedSimpArgs false
open Go.Creel Go.RowKit
set_option maxRecDepth 100000 in
set_option maxHeartbeats 1000000 in
theorem GlobEnd_any (q : ByteArray) (w : World) (h1 : 1 ≤ q.size) (h2 : q.size ≤ maxLen) :
    Calls Tryd.prog 105 #[.string q] w fun e w' => e = .returned (.int .i64 (endOf q)) ∧ w = w' := by
  unfold maxLen at h2
  have HB := Lib.hid (bang_is q h1)
  have hfl := setFrom_le (s := q) (i := 0) (by omega)
  cases hn : setNot q 0 with
  | true =>
    have hf : setFrom q 0 = 2 := by unfold setFrom; rw [if_pos hn]
    rw [hf] at hfl
    rw [hn] at HB
    by_cases hlt : 2 < q.size
    · have HE : Hid (endOf q = if setEnd q 0 < q.size then (setEnd q 0 : Int) + 1 else -1) := Lib.hid rfl
      have hse : setEnd q 0 = nextB q 93 3 := by unfold setEnd; rw [hf]
      have hge := nextB_ge q 93 3
      rcases idx_next (s := q) (j := 3) (by omega) with ⟨hi, hx⟩ | ⟨hi, hx⟩
      · have HF := Lib.hid (show endOf q = -1 by rw [HE.out, hse, if_neg (by omega)])
        have HI := Lib.hid hi
        clear hi hx hse hge HE hn hf
        go_enter Tryd.func105, Tryd.ntmps105
        go_wp2_with (first
          | (go_at_call 136; refine (Tryd.strings_HasPrefix _ _ _).mono ?_; rintro e w' ⟨rfl, rfl⟩; rw [HB.out])
          | (go_at_call 54; refine (IndexByte_any _ _ _).mono ?_; rintro e w' ⟨rfl, rfl⟩; rw [show firstIdx (q.extract 3 q.size) (93 : Int).toNat.toUInt8 = -1 from HI.out]))
        go_ret
        exact ⟨ret_i HF.out, rfl⟩
      · have HF := Lib.hid (show endOf q = (nextB q 93 3 : Int) + 1 by rw [HE.out, hse, if_pos hx])
        have HI := Lib.hid hi
        clear hi hse HE hn hf
        generalize nextB q 93 3 = m at *
        go_enter Tryd.func105, Tryd.ntmps105
        go_wp2_with (first
          | (go_at_call 136; refine (Tryd.strings_HasPrefix _ _ _).mono ?_; rintro e w' ⟨rfl, rfl⟩; rw [HB.out])
          | (go_at_call 54; refine (IndexByte_any _ _ _).mono ?_; rintro e w' ⟨rfl, rfl⟩; rw [show firstIdx (q.extract 3 q.size) (93 : Int).toNat.toUInt8 = _ from HI.out]))
        go_ret
        exact ⟨ret_i (by rw [HF.out]; omega), rfl⟩
    · have HF := Lib.hid (fail_end (q := q) (by omega))
      clear hn hf
      go_enter Tryd.func105, Tryd.ntmps105
      go_wp2_with (go_at_call 136; refine (Tryd.strings_HasPrefix _ _ _).mono ?_; rintro e w' ⟨rfl, rfl⟩; rw [HB.out])
      go_ret
      exact ⟨ret_i HF.out, rfl⟩
  | false =>
    have hf : setFrom q 0 = 1 := by unfold setFrom; rw [if_neg (by rw [hn]; simp)]
    rw [hf] at hfl
    rw [hn] at HB
    by_cases hlt : 1 < q.size
    · have HE : Hid (endOf q = if setEnd q 0 < q.size then (setEnd q 0 : Int) + 1 else -1) := Lib.hid rfl
      have hse : setEnd q 0 = nextB q 93 2 := by unfold setEnd; rw [hf]
      have hge := nextB_ge q 93 2
      rcases idx_next (s := q) (j := 2) (by omega) with ⟨hi, hx⟩ | ⟨hi, hx⟩
      · have HF := Lib.hid (show endOf q = -1 by rw [HE.out, hse, if_neg (by omega)])
        have HI := Lib.hid hi
        clear hi hx hse hge HE hn hf
        go_enter Tryd.func105, Tryd.ntmps105
        go_wp2_with (first
          | (go_at_call 136; refine (Tryd.strings_HasPrefix _ _ _).mono ?_; rintro e w' ⟨rfl, rfl⟩; rw [HB.out])
          | (go_at_call 54; refine (IndexByte_any _ _ _).mono ?_; rintro e w' ⟨rfl, rfl⟩; rw [show firstIdx (q.extract 2 q.size) (93 : Int).toNat.toUInt8 = -1 from HI.out]))
        go_ret
        exact ⟨ret_i HF.out, rfl⟩
      · have HF := Lib.hid (show endOf q = (nextB q 93 2 : Int) + 1 by rw [HE.out, hse, if_pos hx])
        have HI := Lib.hid hi
        clear hi hse HE hn hf
        generalize nextB q 93 2 = m at *
        go_enter Tryd.func105, Tryd.ntmps105
        go_wp2_with (first
          | (go_at_call 136; refine (Tryd.strings_HasPrefix _ _ _).mono ?_; rintro e w' ⟨rfl, rfl⟩; rw [HB.out])
          | (go_at_call 54; refine (IndexByte_any _ _ _).mono ?_; rintro e w' ⟨rfl, rfl⟩; rw [show firstIdx (q.extract 2 q.size) (93 : Int).toNat.toUInt8 = _ from HI.out]))
        go_ret
        exact ⟨ret_i (by rw [HF.out]; omega), rfl⟩
    · have HF := Lib.hid (fail_end (q := q) (by omega))
      clear hn hf
      go_enter Tryd.func105, Tryd.ntmps105
      go_wp2_with (go_at_call 136; refine (Tryd.strings_HasPrefix _ _ _).mono ?_; rintro e w' ⟨rfl, rfl⟩; rw [HB.out])
      go_ret
      exact ⟨ret_i HF.out, rfl⟩
end Go.Proofs.YtecmcgedeaemgaaDoor
