/-
  A record (P6.1): what is wrong with it; record.Check and creelref.RecordFault say so.
-/
import Derived.Test.YtaffgndickdbiaaGreatDoorIndexAnyL
namespace Go.Creel
set_option linter.unusedVariables false
def recFault (r : Rec) : Int :=
  if r.key.size < 1 ∨ 60 < r.key.size ∨ 500 < r.value.size then 1 else if (keyBad r.key || hasB r.value 0) = true then 3 else 0
def Rec.cells (r : Rec) : Array Go.Value := #[.string r.key, .string r.value]
theorem recFault_one {r : Rec} (h : r.key.size < 1 ∨ 60 < r.key.size ∨ 500 < r.value.size) : recFault r = 1 := by unfold recFault; rw [if_pos h]
theorem recFault_two {r : Rec} (h : ¬ (r.key.size < 1 ∨ 60 < r.key.size ∨ 500 < r.value.size)) (h2 : (keyBad r.key || hasB r.value 0) = true) : recFault r = 3 := by unfold recFault; rw [if_neg h, if_pos h2]
theorem recFault_none {r : Rec} (h : ¬ (r.key.size < 1 ∨ 60 < r.key.size ∨ 500 < r.value.size)) (h2 : (keyBad r.key || hasB r.value 0) = false) : recFault r = 0 := by unfold recFault; rw [if_neg h, if_neg (by rw [h2]; simp)]
theorem recFault_ok {r : Rec} (h : recFault r = 0) : 1 ≤ r.key.size ∧ r.key.size ≤ 60 ∧ r.value.size ≤ 500 ∧ keyBad r.key = false ∧ hasB r.value 0 = false := by
  by_cases h1 : r.key.size < 1 ∨ 60 < r.key.size ∨ 500 < r.value.size
  · rw [recFault_one h1] at h; cases h
  · cases h2 : (keyBad r.key || hasB r.value 0) with
    | true => rw [recFault_two h1 h2] at h; cases h
    | false => simp only [Bool.or_eq_false_iff] at h2; exact ⟨by omega, by omega, by omega, h2.1, h2.2⟩
end Go.Creel
namespace Go.Proofs.YtaffgndickdbiaaGreatDoor
set_option linter.unusedVariables false
open Go.Creel Go.RowKit
set_option maxRecDepth 100000 in
set_option maxHeartbeats 1000000 in
theorem RecL_any (r : Rec) (w : World) (hk : r.key.size ≤ maxLen) (hv : r.value.size ≤ maxLen) :
    Calls Tryz.prog 149 #[.agg r.cells] w fun e w' => e = .returned (.int .i64 (recFault r)) ∧ Below w.heap.size w w' := by
  obtain ⟨key, value⟩ := r
  unfold maxLen at hk hv
  show Calls Tryz.prog 149 #[.agg #[.string key, .string value]] w _
  simp only at hk hv
  by_cases h1 : key.size < 1 ∨ 60 < key.size ∨ 500 < value.size
  · have HF := Lib.hid (recFault_one (r := ⟨key, value⟩) h1)
    by_cases ha : key.size < 1
    · clear h1
      go_enter Tryz.func149, Tryz.ntmps149
      go_wp2
      go_ret
      rw [HF.out]
      exact ⟨rfl, (Below.refl _ _).alloc (Nat.le_refl _) _⟩
    · by_cases hb : 60 < key.size
      · clear h1
        go_enter Tryz.func149, Tryz.ntmps149
        go_wp2
        go_ret
        rw [HF.out]
        exact ⟨rfl, (Below.refl _ _).alloc (Nat.le_refl _) _⟩
      · have hc : 500 < value.size := by omega
        clear h1
        go_enter Tryz.func149, Tryz.ntmps149
        go_wp2
        go_ret
        rw [HF.out]
        exact ⟨rfl, (Below.refl _ _).alloc (Nat.le_refl _) _⟩
  · have hk1 : ¬ key.size < 1 := by omega
    have hk2 : ¬ 60 < key.size := by omega
    have hv2 : ¬ 500 < value.size := by omega
    have hix := idx_has value 0
    cases hb1 : keyBad key with
    | true =>
      have HF := Lib.hid (recFault_two (r := ⟨key, value⟩) h1 (by simp [hb1]))
      have HA := Lib.hid (fun W => by have := ContainsAny_any key W (by omega); rw [hb1] at this; exact this)
      clear h1 hix hb1
      go_enter Tryz.func149, Tryz.ntmps149
      go_wp2_with fail
      refine (HA.out _).mono ?_
      rintro e w1 ⟨rfl, hb⟩
      have HB := Lib.hid (((Below.refl _ _).alloc (Nat.le_refl _) _).trans (hb.mono (by simp)))
      clear hb
      go_wp2
      go_ret
      rw [HF.out]
      exact ⟨rfl, HB.out⟩
    | false =>
      have HA := Lib.hid (fun W => by have := ContainsAny_any key W (by omega); rw [hb1] at this; exact this)
      cases hh : hasB value 0 with
      | true =>
        have HF := Lib.hid (recFault_two (r := ⟨key, value⟩) h1 (by simp [hb1, hh]))
        rw [hh] at hix
        clear h1 hb1 hh
        go_enter Tryz.func149, Tryz.ntmps149
        go_wp2_with fail
        refine (HA.out _).mono ?_
        rintro e w1 ⟨rfl, hb⟩
        have HB := Lib.hid (((Below.refl _ _).alloc (Nat.le_refl _) _).trans (hb.mono (by simp)))
        obtain ⟨hc, _⟩ := bcell hb
        clear hb
        go_wp2_with (go_at_call 84; refine (IndexByte_any _ _ _).mono ?_; rintro e w' ⟨rfl, rfl⟩)
        go_ret
        rw [HF.out]
        exact ⟨rfl, HB.out⟩
      | false =>
        have HF := Lib.hid (recFault_none (r := ⟨key, value⟩) h1 (by simp [hb1, hh]))
        rw [hh] at hix
        clear h1 hb1 hh
        go_enter Tryz.func149, Tryz.ntmps149
        go_wp2_with fail
        refine (HA.out _).mono ?_
        rintro e w1 ⟨rfl, hb⟩
        have HB := Lib.hid (((Below.refl _ _).alloc (Nat.le_refl _) _).trans (hb.mono (by simp)))
        obtain ⟨hc, _⟩ := bcell hb
        clear hb
        go_wp2_with (go_at_call 84; refine (IndexByte_any _ _ _).mono ?_; rintro e w' ⟨rfl, rfl⟩)
        go_ret
        rw [HF.out]
        exact ⟨rfl, HB.out⟩
set_option maxRecDepth 100000 in
set_option maxHeartbeats 1000000 in
theorem RecR_any (r : Rec) (w : World) (hk : r.key.size ≤ maxLen) (hv : r.value.size ≤ maxLen) :
    Calls Tryz.prog 159 #[.agg r.cells] w fun e w' => e = .returned (.int .i64 (recFault r)) ∧ Below w.heap.size w w' := by
  obtain ⟨key, value⟩ := r
  have hk' := hk
  have hv' := hv
  unfold maxLen at hk hv
  show Calls Tryz.prog 159 #[.agg #[.string key, .string value]] w _
  simp only at hk hv hk' hv'
  have HA := Lib.hid (fun W => has_any key 61 61 rfl W hk')
  have HA2 := Lib.hid (fun W => has_any key 10 10 rfl W hk')
  have HA3 := Lib.hid (fun W => has_any value 0 0 rfl W hv')
  clear hk' hv'
  by_cases h1 : key.size < 1 ∨ 60 < key.size ∨ 500 < value.size
  · have HF := Lib.hid (recFault_one (r := ⟨key, value⟩) h1)
    by_cases ha : key.size = 0
    · have he := empty_t ha
      clear h1
      go_enter Tryz.func159, Tryz.ntmps159
      go_wp2
      go_ret
      rw [HF.out]
      exact ⟨rfl, (Below.refl _ _).alloc (Nat.le_refl _) _⟩
    · have he := empty_f ha
      by_cases hb : 60 < key.size
      · clear h1
        go_enter Tryz.func159, Tryz.ntmps159
        go_wp2
        go_ret
        rw [HF.out]
        exact ⟨rfl, (Below.refl _ _).alloc (Nat.le_refl _) _⟩
      · have hc : 500 < value.size := by omega
        clear h1
        go_enter Tryz.func159, Tryz.ntmps159
        go_wp2
        go_ret
        rw [HF.out]
        exact ⟨rfl, (Below.refl _ _).alloc (Nat.le_refl _) _⟩
  · have he := empty_f (a := key) (by omega)
    have hk2 : ¬ 60 < key.size := by omega
    have hv2 : ¬ 500 < value.size := by omega
    cases ha : hasB key 61 with
    | true =>
      have HF := Lib.hid (recFault_two (r := ⟨key, value⟩) h1 (by simp [keyBad, ha]))
      have HH := Lib.hid ha
      clear h1 ha
      go_enter Tryz.func159, Tryz.ntmps159
      go_wp2_with (go_at_call 105; refine (HA.out _).mono ?_; rintro e w' ⟨rfl, rfl⟩; rw [HH.out])
      go_ret
      rw [HF.out]
      exact ⟨rfl, (Below.refl _ _).alloc (Nat.le_refl _) _⟩
    | false =>
      cases hb : hasB key 10 with
      | true =>
        have HF := Lib.hid (recFault_two (r := ⟨key, value⟩) h1 (by simp [keyBad, ha, hb]))
        have HH := Lib.hid ha
        have HH2 := Lib.hid hb
        clear h1 ha hb
        go_enter Tryz.func159, Tryz.ntmps159
        go_wp2_with fail
        refine (HA.out _).mono ?_
        rintro e w' ⟨rfl, rfl⟩
        rw [HH.out]
        go_wp2_with fail
        refine (HA2.out _).mono ?_
        rintro e w' ⟨rfl, rfl⟩
        rw [HH2.out]
        go_wp2
        go_ret
        rw [HF.out]
        exact ⟨rfl, (Below.refl _ _).alloc (Nat.le_refl _) _⟩
      | false =>
        cases hc : hasB value 0 with
        | true =>
          have HF := Lib.hid (recFault_two (r := ⟨key, value⟩) h1 (by simp [keyBad, ha, hb, hc]))
          have HH := Lib.hid ha
          have HH2 := Lib.hid hb
          have HH3 := Lib.hid hc
          clear h1 ha hb hc
          go_enter Tryz.func159, Tryz.ntmps159
          go_wp2_with fail
          refine (HA.out _).mono ?_
          rintro e w' ⟨rfl, rfl⟩
          rw [HH.out]
          go_wp2_with fail
          refine (HA2.out _).mono ?_
          rintro e w' ⟨rfl, rfl⟩
          rw [HH2.out]
          go_wp2_with fail
          refine (HA3.out _).mono ?_
          rintro e w' ⟨rfl, rfl⟩
          rw [HH3.out]
          go_wp2
          go_ret
          rw [HF.out]
          exact ⟨rfl, (Below.refl _ _).alloc (Nat.le_refl _) _⟩
        | false =>
          have HF := Lib.hid (recFault_none (r := ⟨key, value⟩) h1 (by simp [keyBad, ha, hb, hc]))
          have HH := Lib.hid ha
          have HH2 := Lib.hid hb
          have HH3 := Lib.hid hc
          clear h1 ha hb hc
          go_enter Tryz.func159, Tryz.ntmps159
          go_wp2_with fail
          refine (HA.out _).mono ?_
          rintro e w' ⟨rfl, rfl⟩
          rw [HH.out]
          go_wp2_with fail
          refine (HA2.out _).mono ?_
          rintro e w' ⟨rfl, rfl⟩
          rw [HH2.out]
          go_wp2_with fail
          refine (HA3.out _).mono ?_
          rintro e w' ⟨rfl, rfl⟩
          rw [HH3.out]
          go_wp2
          go_ret
          rw [HF.out]
          exact ⟨rfl, (Below.refl _ _).alloc (Nat.le_refl _) _⟩
end Go.Proofs.YtaffgndickdbiaaGreatDoor
