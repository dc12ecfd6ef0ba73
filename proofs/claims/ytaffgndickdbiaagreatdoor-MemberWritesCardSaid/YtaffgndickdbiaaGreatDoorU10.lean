/-
  Texts: IndexAnyL, Rec, RecMath, RecW, PaxSpec, PaxL.
-/
import Derived.Test.YtaffgndickdbiaaGreatDoorU09
set_option linter.unusedVariables false
set_option linter.unusedSimpArgs false
set_option linter.unusedSectionVars false
namespace Go.Creel
open Go.RowKit
theorem indexAny_bad : ∀ l : List UInt8, decide (0 ≤ Lib.indexAny l [61, 10]) = l.any (fun b => b == 61 || b == 10)
  | [] => rfl
  | b :: l => by
    have ih := indexAny_bad l
    have hge := Lib.indexAny_ge [61, 10] l
    unfold Lib.indexAny
    have hc : ([61, 10] : List UInt8).contains b = (b == 61 || b == 10) := by simp [List.contains, List.elem]; cases (b == 61) <;> cases (b == 10) <;> rfl
    rw [hc, List.any_cons]
    cases hb : (b == 61 || b == 10) with
    | true => simp
    | false =>
      rw [Bool.false_or, ← ih]
      by_cases h1 : Lib.indexAny l [61, 10] = -1
      · simp [h1]
      · have : (Lib.indexAny l [61, 10] == -1) = false := by rw [beq_eq_false_iff_ne]; exact h1
        rw [if_neg (by simp), if_neg (by rw [this]; simp)]
        exact decide_eq_decide.2 ⟨fun h => by omega, fun h => by omega⟩
theorem any_keyBad (s : ByteArray) : s.data.toList.any (fun b => b == 61 || b == 10) = keyBad s := by
  unfold keyBad hasB
  induction s.data.toList with
  | nil => rfl
  | cons b l ih => simp only [List.any_cons, ih]; cases b == 61 <;> cases b == 10 <;> simp
end Go.Creel
namespace Go.Proofs.YtaffgndickdbiaaGreatDoor
open Go.Creel Go.RowKit
theorem ascii_chars : ∀ (j : Nat) b, (ByteArray.mk #[61, 10]).data.toList[j]? = some b → b.toNat < 128 := by
  intro j b h
  have : j = 0 ∨ j = 1 ∨ 2 ≤ j := by omega
  rcases this with rfl | rfl | hj
  · cases h; decide
  · cases h; decide
  · have : (ByteArray.mk #[61, 10]).data.toList[j]? = none := List.getElem?_eq_none (by show 2 ≤ j; exact hj)
    rw [this] at h; cases h
theorem IndexAny_any (s : ByteArray) (w : World) (hs : s.size ≤ 4000000000) :
    Calls Tryz.prog 222 #[.string s, .string ⟨#[61, 10]⟩] w (RetIdx w (keyBad s)) := by
  by_cases h8 : s.size ≤ 8
  · exact IndexAny_short s w h8
  · refine (Tryz.strings_IndexAny_long (fun w => by kernel_rfl) s ⟨#[61, 10]⟩ w (show 2 ≤ 2 by omega) (by omega) (by omega) (show 2 < 4294967281 by omega) ascii_chars).mono ?_
    rintro e w' ⟨rfl, rfl⟩
    exact ⟨_, rfl, (indexAny_bad _).trans (any_keyBad s), ((Below.refl _ _).alloc (Nat.le_refl _) _).alloc (by simp) _⟩
set_option maxRecDepth 100000 in
theorem ContainsAny_any (s : ByteArray) (w : World) (hs : s.size ≤ 4000000000) :
    Calls Tryz.prog 200 #[.string s, .string ⟨#[61, 10]⟩] w fun e w' => e = .returned (.bool (keyBad s)) ∧ Below w.heap.size w w' := by
  have HI := Lib.hid (IndexAny_any s w hs)
  go_enter Tryz.func200, Tryz.ntmps200
  go_wp2_with fail
  refine HI.out.mono ?_
  rintro e w2 ⟨m, rfl, hm, hb⟩
  have HB := Lib.hid hb
  clear hb
  go_wp2
  go_ret
  exact ⟨rfl, HB.out⟩
end Go.Proofs.YtaffgndickdbiaaGreatDoor
namespace Go.Creel
def recFault (r : Rec) : Int :=
  if r.key.size < 1 ∨ 60 < r.key.size ∨ 500 < r.value.size then 1 else if (keyBad r.key || hasB r.value 0) = true then 3 else 0
def Rec.cells (r : Rec) : Array Go.Value := #[.string r.key, .string r.value]
theorem recFault_one {r : Rec} (h : r.key.size < 1 ∨ 60 < r.key.size ∨ 500 < r.value.size) : recFault r = 1 := by unfold recFault; rw [if_pos h]
theorem recFault_two {r : Rec} (h : ¬ (r.key.size < 1 ∨ 60 < r.key.size ∨ 500 < r.value.size)) (h2 : (keyBad r.key || hasB r.value 0) = true) : recFault r = 3 := by unfold recFault; rw [if_neg h, if_pos h2]
theorem recFault_none {r : Rec} (h : ¬ (r.key.size < 1 ∨ 60 < r.key.size ∨ 500 < r.value.size)) (h2 : (keyBad r.key || hasB r.value 0) = false) : recFault r = 0 := by unfold recFault; rw [if_neg h, if_neg (by rw [h2]; simp)]
theorem recFault_ok {r : Rec} (h : recFault r = 0) : 1 ≤ r.key.size ∧ r.key.size ≤ 60 ∧ r.value.size ≤ 500 ∧ keyBad r.key = false ∧ hasB r.value 0 = false := by
  by_cases h1 : r.key.size < 1 ∨ 60 < r.key.size ∨ 500 < r.value.size
  · rw [recFault_one h1] at h; cases h
  · cases h2 : (keyBad r.key || hasB r.value 0) with
    | true => rw [recFault_two h1 h2] at h; cases h
    | false => simp only [Bool.or_eq_false_iff] at h2; exact ⟨by omega, by omega, by omega, h2.1, h2.2⟩
end Go.Creel
namespace Go.Proofs.YtaffgndickdbiaaGreatDoor
open Go.Creel Go.RowKit
set_option maxRecDepth 100000 in
set_option maxHeartbeats 1000000 in
theorem RecL_any (r : Rec) (w : World) (hk : r.key.size ≤ maxLen) (hv : r.value.size ≤ maxLen) :
    Calls Tryz.prog 149 #[.agg r.cells] w fun e w' => e = .returned (.int .i64 (recFault r)) ∧ Below w.heap.size w w' := by
  obtain ⟨key, value⟩ := r
  unfold maxLen at hk hv
  show Calls Tryz.prog 149 #[.agg #[.string key, .string value]] w _
  simp only at hk hv
  by_cases h1 : key.size < 1 ∨ 60 < key.size ∨ 500 < value.size
  · have HF := Lib.hid (recFault_one (r := ⟨key, value⟩) h1)
    by_cases ha : key.size < 1
    · clear h1
      go_enter Tryz.func149, Tryz.ntmps149
      go_wp2
      go_ret
      rw [HF.out]
      exact ⟨rfl, (Below.refl _ _).alloc (Nat.le_refl _) _⟩
    · by_cases hb : 60 < key.size
      · clear h1
        go_enter Tryz.func149, Tryz.ntmps149
        go_wp2
        go_ret
        rw [HF.out]
        exact ⟨rfl, (Below.refl _ _).alloc (Nat.le_refl _) _⟩
      · have hc : 500 < value.size := by omega
        clear h1
        go_enter Tryz.func149, Tryz.ntmps149
        go_wp2
        go_ret
        rw [HF.out]
        exact ⟨rfl, (Below.refl _ _).alloc (Nat.le_refl _) _⟩
  · have hk1 : ¬ key.size < 1 := by omega
    have hk2 : ¬ 60 < key.size := by omega
    have hv2 : ¬ 500 < value.size := by omega
    have hix := idx_has value 0
    cases hb1 : keyBad key with
    | true =>
      have HF := Lib.hid (recFault_two (r := ⟨key, value⟩) h1 (by simp [hb1]))
      have HA := Lib.hid (fun W => by have := ContainsAny_any key W (by omega); rw [hb1] at this; exact this)
      clear h1 hix hb1
      go_enter Tryz.func149, Tryz.ntmps149
      go_wp2_with fail
      refine (HA.out _).mono ?_
      rintro e w1 ⟨rfl, hb⟩
      have HB := Lib.hid (((Below.refl _ _).alloc (Nat.le_refl _) _).trans (hb.mono (by simp)))
      clear hb
      go_wp2
      go_ret
      rw [HF.out]
      exact ⟨rfl, HB.out⟩
    | false =>
      have HA := Lib.hid (fun W => by have := ContainsAny_any key W (by omega); rw [hb1] at this; exact this)
      cases hh : hasB value 0 with
      | true =>
        have HF := Lib.hid (recFault_two (r := ⟨key, value⟩) h1 (by simp [hb1, hh]))
        rw [hh] at hix
        clear h1 hb1 hh
        go_enter Tryz.func149, Tryz.ntmps149
        go_wp2_with fail
        refine (HA.out _).mono ?_
        rintro e w1 ⟨rfl, hb⟩
        have HB := Lib.hid (((Below.refl _ _).alloc (Nat.le_refl _) _).trans (hb.mono (by simp)))
        obtain ⟨hc, _⟩ := bcell hb
        clear hb
        go_wp2_with (go_at_call 84; refine (IndexByte_any _ _ _).mono ?_; rintro e w' ⟨rfl, rfl⟩)
        go_ret
        rw [HF.out]
        exact ⟨rfl, HB.out⟩
      | false =>
        have HF := Lib.hid (recFault_none (r := ⟨key, value⟩) h1 (by simp [hb1, hh]))
        rw [hh] at hix
        clear h1 hb1 hh
        go_enter Tryz.func149, Tryz.ntmps149
        go_wp2_with fail
        refine (HA.out _).mono ?_
        rintro e w1 ⟨rfl, hb⟩
        have HB := Lib.hid (((Below.refl _ _).alloc (Nat.le_refl _) _).trans (hb.mono (by simp)))
        obtain ⟨hc, _⟩ := bcell hb
        clear hb
        go_wp2_with (go_at_call 84; refine (IndexByte_any _ _ _).mono ?_; rintro e w' ⟨rfl, rfl⟩)
        go_ret
        rw [HF.out]
        exact ⟨rfl, HB.out⟩
set_option maxRecDepth 100000 in
set_option maxHeartbeats 1000000 in
theorem RecR_any (r : Rec) (w : World) (hk : r.key.size ≤ maxLen) (hv : r.value.size ≤ maxLen) :
    Calls Tryz.prog 159 #[.agg r.cells] w fun e w' => e = .returned (.int .i64 (recFault r)) ∧ Below w.heap.size w w' := by
  obtain ⟨key, value⟩ := r
  have hk' := hk
  have hv' := hv
  unfold maxLen at hk hv
  show Calls Tryz.prog 159 #[.agg #[.string key, .string value]] w _
  simp only at hk hv hk' hv'
  have HA := Lib.hid (fun W => has_any key 61 61 rfl W hk')
  have HA2 := Lib.hid (fun W => has_any key 10 10 rfl W hk')
  have HA3 := Lib.hid (fun W => has_any value 0 0 rfl W hv')
  clear hk' hv'
  by_cases h1 : key.size < 1 ∨ 60 < key.size ∨ 500 < value.size
  · have HF := Lib.hid (recFault_one (r := ⟨key, value⟩) h1)
    by_cases ha : key.size = 0
    · have he := empty_t ha
      clear h1
      go_enter Tryz.func159, Tryz.ntmps159
      go_wp2
      go_ret
      rw [HF.out]
      exact ⟨rfl, (Below.refl _ _).alloc (Nat.le_refl _) _⟩
    · have he := empty_f ha
      by_cases hb : 60 < key.size
      · clear h1
        go_enter Tryz.func159, Tryz.ntmps159
        go_wp2
        go_ret
        rw [HF.out]
        exact ⟨rfl, (Below.refl _ _).alloc (Nat.le_refl _) _⟩
      · have hc : 500 < value.size := by omega
        clear h1
        go_enter Tryz.func159, Tryz.ntmps159
        go_wp2
        go_ret
        rw [HF.out]
        exact ⟨rfl, (Below.refl _ _).alloc (Nat.le_refl _) _⟩
  · have he := empty_f (a := key) (by omega)
    have hk2 : ¬ 60 < key.size := by omega
    have hv2 : ¬ 500 < value.size := by omega
    cases ha : hasB key 61 with
    | true =>
      have HF := Lib.hid (recFault_two (r := ⟨key, value⟩) h1 (by simp [keyBad, ha]))
      have HH := Lib.hid ha
      clear h1 ha
      go_enter Tryz.func159, Tryz.ntmps159
      go_wp2_with (go_at_call 105; refine (HA.out _).mono ?_; rintro e w' ⟨rfl, rfl⟩; rw [HH.out])
      go_ret
      rw [HF.out]
      exact ⟨rfl, (Below.refl _ _).alloc (Nat.le_refl _) _⟩
    | false =>
      cases hb : hasB key 10 with
      | true =>
        have HF := Lib.hid (recFault_two (r := ⟨key, value⟩) h1 (by simp [keyBad, ha, hb]))
        have HH := Lib.hid ha
        have HH2 := Lib.hid hb
        clear h1 ha hb
        go_enter Tryz.func159, Tryz.ntmps159
        go_wp2_with fail
        refine (HA.out _).mono ?_
        rintro e w' ⟨rfl, rfl⟩
        rw [HH.out]
        go_wp2_with fail
        refine (HA2.out _).mono ?_
        rintro e w' ⟨rfl, rfl⟩
        rw [HH2.out]
        go_wp2
        go_ret
        rw [HF.out]
        exact ⟨rfl, (Below.refl _ _).alloc (Nat.le_refl _) _⟩
      | false =>
        cases hc : hasB value 0 with
        | true =>
          have HF := Lib.hid (recFault_two (r := ⟨key, value⟩) h1 (by simp [keyBad, ha, hb, hc]))
          have HH := Lib.hid ha
          have HH2 := Lib.hid hb
          have HH3 := Lib.hid hc
          clear h1 ha hb hc
          go_enter Tryz.func159, Tryz.ntmps159
          go_wp2_with fail
          refine (HA.out _).mono ?_
          rintro e w' ⟨rfl, rfl⟩
          rw [HH.out]
          go_wp2_with fail
          refine (HA2.out _).mono ?_
          rintro e w' ⟨rfl, rfl⟩
          rw [HH2.out]
          go_wp2_with fail
          refine (HA3.out _).mono ?_
          rintro e w' ⟨rfl, rfl⟩
          rw [HH3.out]
          go_wp2
          go_ret
          rw [HF.out]
          exact ⟨rfl, (Below.refl _ _).alloc (Nat.le_refl _) _⟩
        | false =>
          have HF := Lib.hid (recFault_none (r := ⟨key, value⟩) h1 (by simp [keyBad, ha, hb, hc]))
          have HH := Lib.hid ha
          have HH2 := Lib.hid hb
          have HH3 := Lib.hid hc
          clear h1 ha hb hc
          go_enter Tryz.func159, Tryz.ntmps159
          go_wp2_with fail
          refine (HA.out _).mono ?_
          rintro e w' ⟨rfl, rfl⟩
          rw [HH.out]
          go_wp2_with fail
          refine (HA2.out _).mono ?_
          rintro e w' ⟨rfl, rfl⟩
          rw [HH2.out]
          go_wp2_with fail
          refine (HA3.out _).mono ?_
          rintro e w' ⟨rfl, rfl⟩
          rw [HH3.out]
          go_wp2
          go_ret
          rw [HF.out]
          exact ⟨rfl, (Below.refl _ _).alloc (Nat.le_refl _) _⟩
end Go.Proofs.YtaffgndickdbiaaGreatDoor
namespace Go.Creel
def recN (L : Nat) : Nat := if L + 1 < 10 then L + 1 else if L + 2 < 100 then L + 2 else L + 3
theorem dlen_eq (n : Nat) : (Lib.decDigits n).length = Lib.nDigits n := by
  rw [Lib.decDigits_eq]; simp
theorem dlen1 {n : Nat} (h : n < 10) : (Lib.decDigits n).length = 1 := by rw [dlen_eq]; exact Lib.nDigits_small h
theorem dlen2 {n : Nat} (h : 10 ≤ n) (h2 : n < 100) : (Lib.decDigits n).length = 2 := by rw [dlen_eq]; exact Lib.nDigits_unique 1 n h h2
theorem dlen3 {n : Nat} (h : 100 ≤ n) (h2 : n < 1000) : (Lib.decDigits n).length = 3 := by rw [dlen_eq]; exact Lib.nDigits_unique 2 n h h2
theorem dlen_cases {n : Nat} (h : n < 1000) : ((Lib.decDigits n).length = 1 ∧ n < 10) ∨ ((Lib.decDigits n).length = 2 ∧ 10 ≤ n ∧ n < 100) ∨ ((Lib.decDigits n).length = 3 ∧ 100 ≤ n) := by
  by_cases h1 : n < 10
  · exact .inl ⟨dlen1 h1, h1⟩
  · by_cases h2 : n < 100
    · exact .inr (.inl ⟨dlen2 (by omega) h2, by omega, h2⟩)
    · exact .inr (.inr ⟨dlen3 (by omega) h, by omega⟩)
theorem recN_cases (L : Nat) : (L + 1 < 10 ∧ recN L = L + 1) ∨ (9 ≤ L ∧ L + 2 < 100 ∧ recN L = L + 2) ∨ (98 ≤ L ∧ recN L = L + 3) := by
  unfold recN
  by_cases h : L + 1 < 10
  · exact .inl ⟨h, if_pos h⟩
  · rw [if_neg h]
    by_cases h2 : L + 2 < 100
    · exact .inr (.inl ⟨by omega, h2, if_pos h2⟩)
    · exact .inr (.inr ⟨by omega, if_neg h2⟩)
theorem recN_bd (L : Nat) : L + 1 ≤ recN L ∧ recN L ≤ L + 3 := by have := recN_cases L; omega
theorem recN_fits {L : Nat} (h : L ≤ 900) : recN L = L + (Lib.decDigits (recN L)).length := by
  have hb := recN_cases L
  rcases dlen_cases (show recN L < 1000 by omega) with ⟨e, h1⟩ | ⟨e, h1, h2⟩ | ⟨e, h1⟩ <;> rw [e] <;> omega
theorem recN_first {L n : Nat} (h : L ≤ 900) (hn : n < recN L) : n ≠ L + (Lib.decDigits n).length := by
  have hb := recN_cases L
  rcases dlen_cases (show n < 1000 by omega) with ⟨e, h1⟩ | ⟨e, h1, h2⟩ | ⟨e, h1⟩ <;> rw [e] <;> omega
theorem itoa_nat (n : Nat) : Lib.itoa (n : Int) = Lib.decDigits n := by unfold Lib.itoa; rw [if_neg (by omega), Int.toNat_natCast]
def recTail (r : Rec) : ByteArray := (((ByteArray.mk #[32] ++ r.key) ++ ⟨#[61]⟩) ++ r.value) ++ ⟨#[10]⟩
def recText (r : Rec) : ByteArray := ofL (Lib.decDigits (recN (recTail r).size)) ++ recTail r
def recWrite (r : Rec) : ByteArray × Int := if recFault r = 0 then (recText r, 0) else (ByteArray.empty, recFault r)
theorem recWrite_bad {r : Rec} (h : recFault r ≠ 0) : recWrite r = (ByteArray.empty, recFault r) := by unfold recWrite; rw [if_neg h]
theorem recWrite_ok {r : Rec} (h : recFault r = 0) : recWrite r = (recText r, 0) := by unfold recWrite; rw [if_pos h]
theorem recTail_size (r : Rec) : (recTail r).size = r.key.size + r.value.size + 3 := by
  unfold recTail
  simp only [ByteArray.size_append]
  show 1 + r.key.size + 1 + r.value.size + 1 = _
  omega
theorem recFault_small {r : Rec} : recFault r = 0 ∨ recFault r = 1 ∨ recFault r = 3 := by
  unfold recFault
  by_cases h : r.key.size < 1 ∨ 60 < r.key.size ∨ 500 < r.value.size
  · rw [if_pos h]; exact .inr (.inl rfl)
  · rw [if_neg h]; split <;> simp
end Go.Creel
namespace Go.Proofs.YtaffgndickdbiaaGreatDoor
open Go.Creel Go.RowKit
theorem ItoaN_any (n : Nat) (w : World) (hn : n ≤ 1000000) (hT : Pow10 w) :
    Calls Tryz.prog 104 #[.int .i64 n] w fun e w' => e = .returned (.string (ofL (Lib.decDigits n))) ∧ Below w.heap.size w w' := by
  have := Itoa_any n w (by constructor <;> omega) hT
  rw [itoa_nat] at this
  exact this
set_option maxRecDepth 100000 in
set_option maxHeartbeats 1000000 in
theorem RecW_any (r : Rec) (w : World) (hk : r.key.size ≤ maxLen) (hv : r.value.size ≤ maxLen) (hT : Pow10 w) :
    Calls Tryz.prog 92 #[.agg r.cells] w fun e w' => e = .returned (.tuple #[.string (recWrite r).1, .int .i64 (recWrite r).2]) ∧ Below w.heap.size w w' := by
  have HC := Lib.hid (fun W => RecL_any r W hk hv)
  have HT := Lib.hid hT
  clear hT
  have hs := recFault_small (r := r)
  by_cases h0 : recFault r = 0
  · obtain ⟨_, hk1, hv1, _, _⟩ := recFault_ok h0
    have HF := Lib.hid (recWrite_ok h0)
    have hts := recTail_size r
    rw [h0] at HC
    clear h0 hs hk hv
    obtain ⟨key, value⟩ := r
    have HTX := Lib.hid (show recText ⟨key, value⟩ = ofL (Lib.decDigits (recN (recTail ⟨key, value⟩).size)) ++ recTail ⟨key, value⟩ from rfl)
    have htt : (((ByteArray.mk #[32] ++ key) ++ ⟨#[61]⟩) ++ value) ++ ⟨#[10]⟩ = recTail ⟨key, value⟩ := rfl
    show Calls Tryz.prog 92 #[.agg #[.string key, .string value]] w _
    simp only [Rec.cells] at HC hts hk1 hv1
    go_enter Tryz.func92, Tryz.ntmps92
    go_wp2_with fail
    refine (HC.out _).mono ?_
    rintro e w1 ⟨rfl, hb⟩
    have HB := Lib.hid (((Below.refl _ _).alloc (Nat.le_refl _) _).trans (hb.mono (by simp)))
    obtain ⟨hc, _⟩ := bcell hb
    clear hb
    go_wp2
    generalize recTail ⟨key, value⟩ = t at *
    have HFI := Lib.hid (recN_fits (L := t.size) (by omega))
    have HFS := Lib.hid (fun n => recN_first (L := t.size) (n := n) (by omega))
    have HBD := Lib.hid (recN_bd t.size)
    go_loopw [6] (fun v wr => ∃ n : Nat, v = .int .i64 n ∧ t.size + 1 ≤ n ∧ n ≤ recN t.size ∧ Hid (Below w.heap.size w wr)) (fun v _ => 1000 - (intOf v).toNat)
    case atStart => exact ⟨t.size + 1, by simp [hts], by omega, by have := HBD.out; omega, HB⟩
    case round =>
      obtain ⟨n, rfl, hn1, hn2, HBR⟩ := hrel
      have hbd := HBD.out
      have HI := Lib.hid (ItoaN_any n wr (by omega) (HT.out.below HBR.out))
      have hsz := ofL_size (Lib.decDigits n)
      have hdl : (Lib.decDigits n).length ≤ 3 := by have := dlen_cases (n := n) (by omega); omega
      have hts2 : t.size = key.size + value.size + 3 := hts
      by_cases hd : n = t.size + (Lib.decDigits n).length
      · have hn : n = recN t.size := by
          rcases Nat.lt_or_ge n (recN t.size) with h | h
          · exact absurd hd (HFS.out n h)
          · omega
        have HR := Lib.hid (show recWrite ⟨key, value⟩ = (ofL (Lib.decDigits n) ++ t, 0) by rw [HF.out, HTX.out, hn])
        have HI2 := Lib.hid (fun (m : Int) W (hm : m = n) hW => by have := ItoaN_any n W (by omega) hW; rw [← hm] at this; exact this)
        generalize ofL (Lib.decDigits n) = x at *
        generalize (Lib.decDigits n).length = d at *
        clear hn HFI HFS HTX HF htt
        go_wp2_with fail
        refine (HI2.out _ _ (by omega) (HT.out.below HBR.out)).mono ?_
        rintro e w3 ⟨rfl, hb⟩
        have HB3 := Lib.hid (HBR.out.trans (hb.mono HBR.out.size))
        clear hb
        go_wp2_with fail
        refine (HI2.out _ _ (by omega) (HT.out.below HB3.out)).mono ?_
        rintro e w4 ⟨rfl, hb⟩
        have HB4 := Lib.hid (HB3.out.trans (hb.mono HB3.out.size))
        clear hb
        go_wp2
        go_ret2
        exact ⟨ret_si HR.out, HB4.out⟩
      · have hn : n < recN t.size := by
          have hne : n ≠ recN t.size := by intro e; exact hd (by rw [e]; exact HFI.out)
          omega
        generalize ofL (Lib.decDigits n) = x at *
        generalize (Lib.decDigits n).length = d at *
        have hd2 : ¬ n = key.size + value.size + 3 + d := by omega
        clear HFI HFS HTX HF htt
        go_wp2_with fail
        refine HI.out.mono ?_
        rintro e w3 ⟨rfl, hb⟩
        have HB3 := Lib.hid (HBR.out.trans (hb.mono HBR.out.size))
        clear hb
        go_wp2
        go_roundw
        · exact ⟨n + 1, by simp, by omega, by omega, HB3⟩
        · simp only [intOf]; omega
  · have HF := Lib.hid (recWrite_bad h0)
    clear hk hv
    generalize recFault r = f at *
    obtain ⟨key, value⟩ := r
    show Calls Tryz.prog 92 #[.agg #[.string key, .string value]] w _
    simp only [Rec.cells] at HC
    go_enter Tryz.func92, Tryz.ntmps92
    go_wp2_with fail
    refine (HC.out _).mono ?_
    rintro e w1 ⟨rfl, hb⟩
    have HB := Lib.hid (((Below.refl _ _).alloc (Nat.le_refl _) _).trans (hb.mono (by simp)))
    clear hb
    go_wp2
    go_ret2
    exact ⟨ret_si HF.out, HB.out⟩
end Go.Proofs.YtaffgndickdbiaaGreatDoor
namespace Go.Creel
open Go.RowKit
def firstF (step : Nat → Int) : Nat → Int
  | 0 => 0
  | n + 1 => if firstF step n = 0 then step n else firstF step n
theorem firstF_ok {step : Nat → Int} : ∀ {n : Nat}, (∀ j, j < n → step j = 0) → firstF step n = 0
  | 0, _ => rfl
  | n + 1, h => by
    have ih := firstF_ok (n := n) (fun j hj => h j (by omega))
    simp only [firstF]
    rw [if_pos ih]
    exact h n (by omega)
theorem firstF_at {step : Nat → Int} {k : Nat} (hz : ∀ j, j < k → step j = 0) (hne : step k ≠ 0) : ∀ {n : Nat}, k < n → firstF step n = step k
  | 0, h => absurd h (by omega)
  | n + 1, h => by
    simp only [firstF]
    by_cases e : k = n
    · subst e
      rw [if_pos (firstF_ok hz)]
    · have ih := firstF_at hz hne (n := n) (by omega)
      rw [if_neg (by rw [ih]; exact hne), ih]
theorem firstF_all {step : Nat → Int} : ∀ {n : Nat}, firstF step n = 0 → ∀ j, j < n → step j = 0
  | 0, _, j, hj => absurd hj (by omega)
  | n + 1, h, j, hj => by
    simp only [firstF] at h
    by_cases e : firstF step n = 0
    · rw [if_pos e] at h
      by_cases ej : j = n
      · rw [ej]; exact h
      · exact firstF_all e j (by omega)
    · rw [if_neg e] at h; exact absurd h e
def leS (a b : ByteArray) : Bool := Op.bytesLess a.toList b.toList || a.toList == b.toList
theorem leS_a {a b : ByteArray} (h : Op.bytesLess a.toList b.toList = true) : leS a b = true := by unfold leS; rw [h]; rfl
theorem leS_b {a b : ByteArray} (h : (a.toList == b.toList) = true) : leS a b = true := by unfold leS; rw [h]; simp
theorem leS_c {a b : ByteArray} (h : Op.bytesLess a.toList b.toList = false) (h2 : (a.toList == b.toList) = false) : leS a b = false := by unfold leS; rw [h, h2]; rfl
theorem leS_empty {a : ByteArray} (h : 1 ≤ a.size) : Op.bytesLess a.toList [] = false ∧ a.toList.isEmpty = false := by
  have hl : a.toList.length = a.size := by rw [Lib.toList_data]; exact (Lib.size_eq a).symm
  cases hh : a.toList with
  | nil => rw [hh] at hl; simp at hl; omega
  | cons x r => exact ⟨rfl, rfl⟩
def stepP (l : List Rec) (k : Nat) : Int :=
  if recFault (rk l k) ≠ 0 then recFault (rk l k) else if 0 < k ∧ leS (rk l k).key (rk l (k - 1)).key = true then 6 else 0
def paxFault (l : List Rec) : Int := if 12 < l.length then 1 else firstF (stepP l) l.length
def paxBytes (l : List Rec) : List UInt8 := (l.map fun r => (recText r).data.toList).flatten
def paxWrite (l : List Rec) : ByteArray × Int := if paxFault l = 0 then (ofL (paxBytes l), 0) else (ByteArray.empty, paxFault l)
theorem paxWrite_bad {l : List Rec} (h : paxFault l ≠ 0) : paxWrite l = (ByteArray.empty, paxFault l) := by unfold paxWrite; rw [if_neg h]
theorem paxWrite_ok {l : List Rec} (h : paxFault l = 0) : paxWrite l = (ofL (paxBytes l), 0) := by unfold paxWrite; rw [if_pos h]
theorem paxFault_many {l : List Rec} (h : 12 < l.length) : paxFault l = 1 := by unfold paxFault; rw [if_pos h]
theorem paxFault_at {l : List Rec} {k : Nat} {e : Int} (hl : l.length ≤ 12) (hk : k < l.length) (hz : ∀ j, j < k → stepP l j = 0) (he : stepP l k = e) (hne : e ≠ 0) : paxFault l = e := by
  unfold paxFault; rw [if_neg (by omega), firstF_at hz (by rw [he]; exact hne) hk, he]
theorem paxFault_ok {l : List Rec} (hl : l.length ≤ 12) (hz : ∀ j, j < l.length → stepP l j = 0) : paxFault l = 0 := by
  unfold paxFault; rw [if_neg (by omega), firstF_ok hz]
theorem paxFault_all {l : List Rec} (h : paxFault l = 0) : l.length ≤ 12 ∧ ∀ k, k < l.length → stepP l k = 0 := by
  have hl : l.length ≤ 12 := by
    rcases Nat.lt_or_ge 12 l.length with e | e
    · rw [paxFault_many e] at h; cases h
    · exact e
  refine ⟨hl, ?_⟩
  unfold paxFault at h
  rw [if_neg (by omega)] at h
  exact firstF_all h
theorem stepP_rec {l : List Rec} {k : Nat} {e : Int} (he : recFault (rk l k) = e) (h : e ≠ 0) : stepP l k = e := by unfold stepP; rw [if_pos (by rw [he]; exact h), he]
theorem stepP_le {l : List Rec} {k : Nat} (h : recFault (rk l k) = 0) (h0 : 0 < k) (h1 : leS (rk l k).key (rk l (k - 1)).key = true) : stepP l k = 6 := by unfold stepP; rw [if_neg (by rw [h]; simp), if_pos ⟨h0, h1⟩]
theorem stepP_ok {l : List Rec} {k : Nat} (h : recFault (rk l k) = 0) (h0 : 0 < k → leS (rk l k).key (rk l (k - 1)).key = false) : stepP l k = 0 := by
  unfold stepP
  rw [if_neg (by rw [h]; simp), if_neg]
  rintro ⟨a, b⟩
  rw [h0 a] at b; cases b
theorem stepP_zero {l : List Rec} {k : Nat} (h : stepP l k = 0) : recFault (rk l k) = 0 := by
  unfold stepP at h
  by_cases e : recFault (rk l k) = 0
  · exact e
  · rw [if_pos e] at h; exact h
theorem rk_drop {l : List Rec} {k : Nat} (h : k < l.length) : l.drop k = rk l k :: l.drop (k + 1) := by
  rw [List.drop_eq_getElem_cons h]
  simp [rk, List.getD_eq_getElem?_getD, List.getElem?_eq_getElem h]
theorem rk_take {l : List Rec} {k : Nat} (h : k < l.length) : l.take (k + 1) = l.take k ++ [rk l k] := by
  rw [List.take_add_one, List.getElem?_eq_getElem h]
  simp [rk, List.getD_eq_getElem?_getD, List.getElem?_eq_getElem h]
theorem paxBytes_take {l : List Rec} {k : Nat} (h : k < l.length) : paxBytes (l.take (k + 1)) = paxBytes (l.take k) ++ (recText (rk l k)).data.toList := by
  rw [rk_take h]; simp [paxBytes]
theorem paxBytes_drop {l : List Rec} {k : Nat} (h : k < l.length) : ofL (paxBytes (l.drop k)) = recText (rk l k) ++ ofL (paxBytes (l.drop (k + 1))) := by
  rw [rk_drop h]
  apply ext_bytes
  simp [paxBytes, ofL]
theorem recText_size {r : Rec} (h : recFault r = 0) : (recText r).size ≤ 566 := by
  obtain ⟨_, h1, h2, _⟩ := recFault_ok h
  have ht := recTail_size r
  have hb := recN_bd (recTail r).size
  have := dlen_cases (n := recN (recTail r).size) (by omega)
  unfold recText
  rw [ByteArray.size_append, ofL_size]
  omega
theorem paxBytes_le {l : List Rec} (h : ∀ r ∈ l, recFault r = 0) : (paxBytes l).length ≤ 566 * l.length := by
  induction l with
  | nil => simp [paxBytes]
  | cons a t ih =>
    have h1 := recText_size (h a (by simp))
    have h2 := ih (fun r hr => h r (by simp [hr]))
    have : (recText a).data.toList.length = (recText a).size := (Lib.size_eq _).symm
    simp only [paxBytes, List.map_cons, List.flatten_cons, List.length_append, List.length_cons] at h2 ⊢
    omega
theorem pax_all {l : List Rec} (h : paxFault l = 0) : ∀ r ∈ l, recFault r = 0 := by
  intro r hr
  obtain ⟨k, hk, rfl⟩ := List.getElem_of_mem hr
  have := stepP_zero ((paxFault_all h).2 k hk)
  simpa [rk, List.getD_eq_getElem?_getD, List.getElem?_eq_getElem hk] using this
def lastP (l : List Rec) (k : Nat) : ByteArray := if k = 0 then ⟨#[]⟩ else (rk l (k - 1)).key
end Go.Creel
namespace Go.Proofs.YtaffgndickdbiaaGreatDoor
open Go.Creel Go.RowKit
set_option maxRecDepth 100000 in
set_option maxHeartbeats 2000000 in
theorem PaxL_any (v : Value) (l : List Rec) (w : World) (h : SliceC maxLen 2 (RecC maxLen) w [v] l) :
    Calls Tryz.prog 91 #[v] w fun e w' => e = .returned (.int .i64 (paxFault l)) ∧ Below w.heap.size w w' := by
  rcases recs_cases h with ⟨a, cap, rfl, rfl⟩ | ⟨b, off, cap, rfl, hpos, hle, hm, _, hc⟩
  · have HF := Lib.hid (show paxFault [] = 0 from rfl)
    go_enter Tryz.func91, Tryz.ntmps91
    go_wp2
    go_loop [3, 4, 5, 11] (fun _ _ _ i => i = .int .i64 0) (fun _ _ _ _ => 0)
    case atStart => rfl
    case round =>
      obtain rfl := hrel
      go_wp2
      go_ret
      rw [HF.out]
      exact ⟨rfl, Below.refl _ _⟩
  · have hm' := hm
    unfold maxLen at hm
    by_cases h12 : 12 < l.length
    · have HF := Lib.hid (paxFault_many h12)
      clear hc h
      go_enter Tryz.func91, Tryz.ntmps91
      go_wp2
      go_ret
      rw [HF.out]
      exact ⟨rfl, Below.refl _ _⟩
    · have hbl : b < w.heap.size := World.block_lt_of_cell? w _ (hc 0 hpos).1.1
      have Hc := Lib.hid hc
      have HFA := Lib.hid (fun k e h1 h2 h3 h4 => paxFault_at (l := l) (k := k) (e := e) (by omega) h1 h2 h3 h4)
      have HFO := Lib.hid (paxFault_ok (l := l) (by omega))
      clear hc h
      go_enter Tryz.func91, Tryz.ntmps91
      go_wp2
      go_loopw [3, 4, 5, 11] (fun _ _ _ i wr => ∃ k : Nat, k ≤ l.length ∧ i = .int .i64 k ∧ Hid (∀ j, j < k → stepP l j = 0) ∧ Hid (Below w.heap.size w wr)) (fun _ _ _ i _ => l.length - (intOf i).toNat)
      case atStart => exact ⟨0, by omega, rfl, Lib.hid (fun j hj => absurd hj (by omega)), Lib.hid (Below.refl _ _)⟩
      case round =>
        obtain ⟨k, hk, rfl, HZ, HB⟩ := hrel
        by_cases hlt : k < l.length
        · obtain ⟨⟨hc0, hc1⟩, hks, hvs⟩ := Hc.out k hlt
          rw [← HB.out.cell (p := ⟨b, off + k * 2, none⟩) hbl] at hc0
          rw [← HB.out.cell (p := ⟨b, off + k * 2 + 1, none⟩) hbl] at hc1
          have hprev : 0 < k → wr.cell? ⟨b, off + (k - 1) * 2, none⟩ = some (.string (rk l (k - 1)).key) := fun h0 => by
            rw [HB.out.cell (p := ⟨b, off + (k - 1) * 2, none⟩) hbl]; exact (Hc.out (k - 1) (by omega)).1.1
          have hbl2 : b < wr.heap.size := Nat.lt_of_lt_of_le hbl HB.out.size
          have HSR := Lib.hid (fun e => stepP_rec (l := l) (k := k) (e := e))
          have HSL := Lib.hid (stepP_le (l := l) (k := k))
          have HSO := Lib.hid (stepP_ok (l := l) (k := k))
          have HL := Lib.hid (fun W => RecL_any (rk l k) W hks hvs)
          generalize hr : rk l k = r at *
          have HR := Lib.hid hr
          clear hr
          generalize recFault r = f at *
          obtain ⟨key, value⟩ := r
          simp only [Rec.cells] at HL
          simp only at hc0 hc1
          have HPV := Lib.hid hprev
          clear hprev hks hvs
          go_wp2_with fail
          refine (HL.out _).mono ?_
          rintro e w1 ⟨rfl, hb⟩
          have HBX := Lib.hid (HB.out.trans ((((Below.refl _ _).alloc (Nat.le_refl _) _).trans (hb.mono (by simp))).mono HB.out.size))
          have hcb := (bcell hb).1
          have cb0 : w1.cell? ⟨wr.heap.size, 0, none⟩ = some (.string key) := by rw [hcb _ _ (by simp)]; simp
          have hcp : ∀ o, w1.cell? ⟨b, o, none⟩ = wr.cell? ⟨b, o, none⟩ := fun o => by rw [hcb _ _ (by simp; omega)]; exact (((Below.refl _ _).alloc (Nat.le_refl _) _)).cell (p := ⟨b, o, none⟩) hbl2
          have HCP := Lib.hid hcp
          clear hb hcb hc0 hc1 hcp HL
          by_cases hf : f = 0
          · subst hf
            by_cases h0 : 0 < k
            · obtain ⟨j, rfl⟩ : ∃ j, k = j + 1 := ⟨k - 1, by omega⟩
              have hp := HPV.out h0
              rw [← HCP.out] at hp
              simp only [Nat.add_sub_cancel] at hp HSL HSO
              generalize (rk l j).key = pre at *
              have hg : decide ((0 : Int) < ((j + 1 : Nat) : Int)) = true := by simp
              have hw1 : IntKind.i64.wrap ((j : Int) + 1 - 1) = j := by rw [IntKind.wrap_i64]; omega
              clear HPV
              cases h1 : Op.bytesLess key.toList pre.toList with
              | true =>
                have HQ := Lib.hid (HFA.out (j + 1) 6 hlt HZ.out (HSL.out trivial h0 (leS_a h1)) (by decide))
                clear HZ HFA HFO HSR HSL HSO
                go_wp2
                go_quiet (fail)
                go_wp2
                go_ret
                rw [HQ.out]
                exact ⟨rfl, below_drewN HBX.out _⟩
              | false =>
                cases h2 : (key.toList == pre.toList) with
                | true =>
                  have HQ := Lib.hid (HFA.out (j + 1) 6 hlt HZ.out (HSL.out trivial h0 (leS_b h2)) (by decide))
                  clear HZ HFA HFO HSR HSL HSO
                  go_wp2
                  go_quiet (fail)
                  go_wp2
                  go_ret
                  rw [HQ.out]
                  exact ⟨rfl, below_drewN HBX.out _⟩
                | false =>
                  have HQ := Lib.hid (show ∀ i, i < j + 1 + 1 → stepP l i = 0 from fun i hi => by
                    by_cases e : i = j + 1
                    · rw [e]; exact HSO.out trivial (fun _ => leS_c h1 h2)
                    · exact HZ.out i (by omega))
                  clear HZ HFA HFO HSR HSL HSO
                  go_wp2
                  go_quiet (fail)
                  go_wp2
                  go_roundw
                  · exact ⟨j + 1 + 1, by omega, by simp, HQ, Lib.hid (below_drewN HBX.out _)⟩
                  · simp only [intOf]; omega
            · obtain rfl : k = 0 := by omega
              have HQ := Lib.hid (show ∀ i, i < 0 + 1 → stepP l i = 0 from fun i hi => by
                obtain rfl : i = 0 := by omega
                exact HSO.out rfl (fun h => absurd h (by omega)))
              clear HZ HFA HFO HSR HSL HSO HPV
              go_wp2
              go_quiet (fail)
              go_wp2
              go_roundw
              · exact ⟨0 + 1, by omega, by simp, HQ, Lib.hid (below_drewN HBX.out _)⟩
              · simp only [intOf]; omega
          · have HQ := Lib.hid (HFA.out k f hlt HZ.out (HSR.out f rfl hf) hf)
            clear HZ HFA HFO HSR HSL HSO HPV
            go_wp2
            go_ret
            rw [HQ.out]
            exact ⟨rfl, HBX.out⟩
        · obtain rfl : k = l.length := by omega
          have HQ := Lib.hid (HFO.out HZ.out)
          clear HZ HFA HFO
          go_wp2
          go_ret
          rw [HQ.out]
          exact ⟨rfl, HB.out⟩
set_option maxRecDepth 100000 in
set_option maxHeartbeats 2000000 in
theorem PaxR_any (v : Value) (l : List Rec) (w : World) (h : SliceC maxLen 2 (RecC maxLen) w [v] l) :
    Calls Tryz.prog 111 #[v] w fun e w' => e = .returned (.int .i64 (paxFault l)) ∧ Below w.heap.size w w' := by
  rcases recs_cases h with ⟨a, cap, rfl, rfl⟩ | ⟨b, off, cap, rfl, hpos, hle, hm, _, hc⟩
  · have HF := Lib.hid (show paxFault [] = 0 from rfl)
    go_enter Tryz.func111, Tryz.ntmps111
    go_wp2
    go_loop [3, 5, 6, 12] (fun v3 _ _ i => v3 = .string ⟨#[]⟩ ∧ i = .int .i64 0) (fun _ _ _ _ => 0)
    case atStart => exact ⟨rfl, rfl⟩
    case round =>
      obtain ⟨rfl, rfl⟩ := hrel
      go_wp2
      go_ret
      rw [HF.out]
      exact ⟨rfl, Below.refl _ _⟩
  · have hm' := hm
    unfold maxLen at hm
    by_cases h12 : 12 < l.length
    · have HF := Lib.hid (paxFault_many h12)
      clear hc h
      go_enter Tryz.func111, Tryz.ntmps111
      go_wp2
      go_ret
      rw [HF.out]
      exact ⟨rfl, Below.refl _ _⟩
    · have hbl : b < w.heap.size := World.block_lt_of_cell? w _ (hc 0 hpos).1.1
      have Hc := Lib.hid hc
      have HFA := Lib.hid (fun k e h1 h2 h3 h4 => paxFault_at (l := l) (k := k) (e := e) (by omega) h1 h2 h3 h4)
      have HFO := Lib.hid (paxFault_ok (l := l) (by omega))
      clear hc h
      go_enter Tryz.func111, Tryz.ntmps111
      go_wp2
      go_loopw [3, 5, 6, 12] (fun v3 _ _ i wr => ∃ (k : Nat) (last : ByteArray), k ≤ l.length ∧ i = .int .i64 k ∧ v3 = .string last ∧ Hid (last = lastP l k) ∧ Hid (∀ j, j < k → stepP l j = 0) ∧ Hid (Below w.heap.size w wr)) (fun _ _ _ i _ => l.length - (intOf i).toNat)
      case atStart => exact ⟨0, ⟨#[]⟩, by omega, rfl, rfl, Lib.hid rfl, Lib.hid (fun j hj => absurd hj (by omega)), Lib.hid (Below.refl _ _)⟩
      case round =>
        obtain ⟨k, last, hk, rfl, rfl, HLP, HZ, HB⟩ := hrel
        by_cases hlt : k < l.length
        · obtain ⟨⟨hc0, hc1⟩, hks, hvs⟩ := Hc.out k hlt
          rw [← HB.out.cell (p := ⟨b, off + k * 2, none⟩) hbl] at hc0
          rw [← HB.out.cell (p := ⟨b, off + k * 2 + 1, none⟩) hbl] at hc1
          have HSR := Lib.hid (fun e => stepP_rec (l := l) (k := k) (e := e))
          have HSL := Lib.hid (stepP_le (l := l) (k := k))
          have HSO := Lib.hid (stepP_ok (l := l) (k := k))
          have HNX := Lib.hid (show (rk l k).key = lastP l (k + 1) from rfl)
          have HOK := Lib.hid (fun h => (recFault_ok (r := rk l k) h).1)
          have HL := Lib.hid (fun W => RecR_any (rk l k) W hks hvs)
          generalize hr : rk l k = r at *
          have HR := Lib.hid hr
          clear hr
          generalize recFault r = f at *
          obtain ⟨key, value⟩ := r
          simp only [Rec.cells] at HL
          simp only at hc0 hc1
          clear hks hvs
          go_wp2_with fail
          refine (HL.out _).mono ?_
          rintro e w1 ⟨rfl, hb⟩
          have HBX := Lib.hid (HB.out.trans ((((Below.refl _ _).alloc (Nat.le_refl _) _).trans (hb.mono (by simp))).mono HB.out.size))
          have hcb := (bcell hb).1
          have cb0 : w1.cell? ⟨wr.heap.size, 0, none⟩ = some (.string key) := by rw [hcb _ _ (by simp)]; simp
          clear hb hcb hc0 hc1 HL
          by_cases hf : f = 0
          · subst hf
            by_cases h0 : 0 < k
            · have HLQ := Lib.hid (show last = (rk l (k - 1)).key by rw [HLP.out]; unfold lastP; rw [if_neg (by omega)])
              have HY := Lib.hid (fun h => HFA.out k 6 hlt HZ.out (HSL.out rfl h0 (by rw [← HLQ.out]; exact h)) (by decide))
              have HN := Lib.hid (fun h => show ∀ i, i < k + 1 → stepP l i = 0 from fun i hi => by
                by_cases e : i = k
                · rw [e]; exact HSO.out rfl (fun _ => by rw [← HLQ.out]; exact h)
                · exact HZ.out i (by omega))
              clear HZ HFA HFO HSR HSL HSO HLP HOK
              cases h1 : Op.bytesLess key.toList last.toList with
              | true =>
                have HQ := Lib.hid (HY.out (leS_a h1))
                go_wp2
                go_ret
                rw [HQ.out]
                exact ⟨rfl, HBX.out⟩
              | false =>
                cases h2 : (key.toList == last.toList) with
                | true =>
                  have HQ := Lib.hid (HY.out (leS_b h2))
                  go_wp2
                  go_ret
                  rw [HQ.out]
                  exact ⟨rfl, HBX.out⟩
                | false =>
                  have HQ := Lib.hid (HN.out (leS_c h1 h2))
                  go_wp2
                  go_roundw
                  · exact ⟨k + 1, key, by omega, by simp, rfl, HNX, HQ, HBX⟩
                  · simp only [intOf]; omega
            · obtain rfl : k = 0 := by omega
              have HQ := Lib.hid (show ∀ i, i < 0 + 1 → stepP l i = 0 from fun i hi => by
                obtain rfl : i = 0 := by omega
                exact HSO.out rfl (fun h => absurd h (by omega)))
              obtain rfl : last = ⟨#[]⟩ := HLP.out
              obtain ⟨h1, h2⟩ := leS_empty (HOK.out rfl)
              clear HZ HFA HFO HSR HSL HSO HLP HOK
              go_wp2
              go_roundw
              case rel => exact ⟨1, key, by omega, rfl, rfl, HNX, HQ, HBX⟩
              case measure => simp [intOf]; omega
          · have HQ := Lib.hid (HFA.out k f hlt HZ.out (HSR.out f rfl hf) hf)
            clear HZ HFA HFO HSR HSL HSO HLP HOK
            go_wp2
            go_ret
            rw [HQ.out]
            exact ⟨rfl, HBX.out⟩
        · obtain rfl : k = l.length := by omega
          have HQ := Lib.hid (HFO.out HZ.out)
          clear HZ HFA HFO HLP
          go_wp2
          go_ret
          rw [HQ.out]
          exact ⟨rfl, HB.out⟩
end Go.Proofs.YtaffgndickdbiaaGreatDoor
