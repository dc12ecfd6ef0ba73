/-
  glob.set and glob.sign, walked.
-/
import Derived.Test.YtecmcgedeaemgaaDoorGlobCheck
import Derived.Test.YtecmcgedeaemgaaDoorGlobCheckW
namespace Go.Creel
set_option linter.unusedVariables false
set_option linter.unusedSimpArgs false
open Go.RowKit
theorem setFrom_t {q : ByteArray} (h : setNot q 0 = true) : setFrom q 0 = 2 := if_pos h
theorem setFrom_f {q : ByteArray} (h : setNot q 0 = false) : setFrom q 0 = 1 := if_neg (by rw [h]; simp)
/-- a set by itself: the program's test for a range -/
theorem isRange_prog {q : ByteArray} {j : Nat} (he : setEnd q 0 + 1 = q.size) (hj : j < setEnd q 0) : (decide (j + 3 < q.size) && (byt q (j + 1) == 45) && !(byt q (j + 2) == 93)) = isRange q j := by
  unfold isRange
  by_cases h : j + 3 < q.size
  · rw [decide_eq_true h, decide_eq_true (show j + 2 < q.size by omega)]
  · rw [decide_eq_false h]
    by_cases h2 : j + 2 < q.size
    · have e : byt q (j + 2) = 93 := by
        have e1 : j + 2 = setEnd q 0 := by omega
        rw [e1]
        exact nextB_at (show setEnd q 0 < q.size by omega)
      rw [e]; simp
    · rw [decide_eq_false h2]
theorem isRange_lt {s : ByteArray} {k : Nat} (h : isRange s k = true) : k + 2 < s.size := by
  unfold isRange at h
  simp only [Bool.and_eq_true, decide_eq_true_eq] at h
  exact h.1.1
theorem rangeHighS_lt (s : ByteArray) (j : Nat) : rangeHigh s j < 256 := by
  unfold rangeHigh
  split <;> exact byt_lt _ _
/-- what the loop over a set knows -/
def SetSt (q : ByteArray) (c j kk : Nat) (b : Bool) : Prop := SetAt q 0 j ∧ (kk = 0 ↔ j = setFrom q 0) ∧ kk ≤ j ∧ (b || setIn q (setFrom q 0) j c) = setIn q (setFrom q 0) (setFrom q 0) c
theorem SetSt.start {q : ByteArray} (h : 0 < q.size) (c : Nat) : SetSt q c (setFrom q 0) 0 false := ⟨SetAt.start h, by simp, Nat.zero_le _, by simp⟩
theorem SetSt.next {q : ByteArray} {c j kk : Nat} {b : Bool} (h : SetSt q c j kk b) (hj : j < q.size) (hc : j = setFrom q 0 ∨ byt q j ≠ 93) : SetSt q c (rangeNext q j) (kk + 1) (b || (decide (byt q j ≤ c) && decide (c ≤ rangeHigh q j))) := by
  obtain ⟨h1, h2, h3, h4⟩ := h
  obtain ⟨n1, n2⟩ := h1.next hj hc
  have ha := h1.1
  refine ⟨n1, ⟨fun e => by omega, fun e => by omega⟩, by omega, ?_⟩
  rw [← h4, setIn_more c ⟨hj, hc⟩, Bool.or_assoc]
theorem SetSt.done {q : ByteArray} {c j kk : Nat} {b : Bool} (h : SetSt q c j kk b) (hk : 0 < kk) (hb : byt q j = 93) : b = setIn q (setFrom q 0) (setFrom q 0) c := by
  obtain ⟨h1, h2, h3, h4⟩ := h
  rw [← h4, setIn_end c, Bool.or_false]
  rintro ⟨_, e | e⟩
  · have := h2.2 e; omega
  · exact e hb
end Go.Creel
namespace Go.Proofs.YtecmcgedeaemgaaDoor
set_option linter.unusedVariables false
set_option linter.unusedSimpArgs false
open Go.Creel Go.RowKit
set_option maxRecDepth 100000 in
set_option maxHeartbeats 4000000 in
theorem GlobSet_any (q : ByteArray) (c : Nat) (hc : c < 256) (w : World) (h1 : 1 ≤ q.size) (h2 : q.size ≤ 400) (he : setEnd q 0 + 1 = q.size) :
    Calls Tryd.prog 160 #[.string q, .int .u8 c] w fun e w' => (∃ r, e = .returned (.tuple #[.bool (setNot q 0 != setIn q (setFrom q 0) (setFrom q 0) c), .string r])) ∧ Below w.heap.size w w' := by
  have HBG := Lib.hid (bang_is q h1)
  have HY := Lib.hid (fun (h : setNot q 0 = true) => setFrom_t h)
  have HN := Lib.hid (fun (h : setNot q 0 = false) => setFrom_f h)
  have HST := Lib.hid (SetSt.start (show 0 < q.size by omega) c)
  have hfl := setFrom_le (s := q) (i := 0) (by omega)
  have hfg := setFrom_gt q 0
  have HSE := Lib.hid he
  generalize hnb : setNot q 0 = nb at *
  have HNB := Lib.hid hnb
  clear hnb
  have HGE := Lib.hid (show setFrom q 0 + 1 ≤ setEnd q 0 from nextB_ge q 93 (setFrom q 0 + 1))
  have hlim : setFrom q 0 + 2 ≤ q.size := by have := HGE.out; omega
  generalize hA : setFrom q 0 = a at *
  have HA := Lib.hid hA
  clear hA he
  go_enter Tryd.func160, Tryd.ntmps160
  go_upto_if 16 with (go_at_call 136; refine (Tryd.strings_HasPrefix _ _ _).mono ?_; rintro e w2 ⟨rfl, hw⟩; rw [hw, HBG.out]; clear hw w2)
  go_cut [6] from 17 to 18 (fun r wx => r = .string (q.extract a q.size) ∧ wx = w)
  case first =>
    cases nb with
    | true =>
      have HY2 := Lib.hid (HY.out rfl)
      go_wp2
      go_meet
      exact ⟨by rw [HY2.out, tail_tail q 1 1], rfl⟩
    | false =>
      have HN2 := Lib.hid (HN.out rfl)
      go_wp2
      go_meet
      exact ⟨by rw [HN2.out], rfl⟩
  case rest =>
    obtain ⟨rfl, rfl⟩ := hcut
    go_wp2
    go_loop [6, 8, 9, 10, 11] (fun r i k _ _ => ∃ (j kk : Nat) (b : Bool) (t : ByteArray), r = .string t ∧ i = .bool b ∧ k = .int .i64 kk ∧ Hid (t = q.extract j q.size) ∧ Hid (SetSt q c j kk b)) (fun r _ _ _ _ => slen r)
    case atStart => exact ⟨a, 0, false, _, rfl, rfl, rfl, Lib.hid rfl, HST⟩
    case round =>
      obtain ⟨j, kk, b, t, rfl, rfl, rfl, HT, HS⟩ := hrel
      have HJ := Lib.hid HS.out.1.1
      have HLE := Lib.hid (HS.out.1.le (by have := HSE.out; omega))
      have hjq : j < q.size := by have := HSE.out; have := HLE.out; omega
      have hja : a ≤ j := by have := HJ.out; rw [HA.out] at this; exact this
      have hsz : t.size = q.size - j := by rw [HT.out, size_tail]
      have hb0 : t[0].toNat = byt q j := by rw [byt_get t 0 (by omega), HT.out, byt_tail]; rfl
      have hkj := HS.out.2.2.1
      go_upto_region 8 with fail
      go_cut [27] from 21 to 27 (fun v wx => ∃ sb, v = .bool sb ∧ Hid (sb = decide (0 < kk ∧ byt q j = 93)) ∧ wx = wc)
      case first =>
        by_cases hk0 : 0 < kk
        · by_cases h93 : byt q j = 93
          · have hq : (((byt q j : Nat) : Int) == 93) = true := by rw [h93]; rfl
            have HD := Lib.hid (decide_eq_true (And.intro hk0 h93)).symm
            clear h93
            go_wp2
            go_meet
            exact ⟨_, rfl, HD, rfl⟩
          · have hq : (((byt q j : Nat) : Int) == 93) = false := by rw [beq_eq_false_iff_ne]; omega
            have HD := Lib.hid (decide_eq_false (show ¬ (0 < kk ∧ byt q j = 93) from fun h => h93 h.2)).symm
            clear h93
            go_wp2
            go_meet
            exact ⟨_, rfl, HD, rfl⟩
        · have HD := Lib.hid (decide_eq_false (show ¬ (0 < kk ∧ byt q j = 93) from fun h => hk0 h.1)).symm
          have hkz : kk = 0 := by omega
          subst hkz
          go_wp2
          go_meet
          exact ⟨_, rfl, HD, rfl⟩
      case rest =>
        obtain ⟨sb, rfl, HSB, rfl⟩ := hcut
        by_cases hst : 0 < kk ∧ byt q j = 93
        · have hsb : sb = true := HSB.out.trans (decide_eq_true hst)
          subst hsb
          have HR := Lib.hid (HS.out.done hst.1 hst.2)
          rw [HA.out] at HR
          clear hst
          go_wp2
          go_quiet (fail)
          go_wp2
          go_ret2
          refine ⟨⟨t.extract 1 (q.size - j), ?_⟩, below_draws _ _ _⟩
          rw [← HR.out, show (nb != b) = !(b == nb) by cases b <;> cases nb <;> rfl]
          rfl
        · have hsb : sb = false := HSB.out.trans (decide_eq_false hst)
          subst hsb
          have hcond : j = setFrom q 0 ∨ byt q j ≠ 93 := by
            rcases Nat.eq_zero_or_pos kk with e | e
            · exact .inl (HS.out.2.1.1 e)
            · exact .inr (fun h => hst ⟨e, h⟩)
          have HNX := Lib.hid (HS.out.next hjq hcond)
          have hlt : j < setEnd q 0 := by
            rcases Nat.lt_or_ge j (setEnd q 0) with h | h
            · exact h
            · have e1 : j = setEnd q 0 := by have := HLE.out; omega
              have e2 : byt q j = 93 := by rw [e1]; exact nextB_at (show setEnd q 0 < q.size by have := HSE.out; omega)
              rcases hcond with h3 | h3
              · have h4 := HGE.out
                have h5 := HA.out
                omega
              · exact absurd e2 h3
          have HRG := Lib.hid (isRange_prog HSE.out hlt)
          have hj1 : j + 1 < q.size := by have := HSE.out; omega
          clear hlt hst hcond
          go_upto_region 13 with fail
          generalize ht1 : t.extract 1 _ = t1 at *
          have HT1 := Lib.hid (show t1 = q.extract (j + 1) q.size by
            rw [← ht1, HT.out]; exact tail_tail q j 1)
          clear ht1
          have hz1 : t1.size = q.size - (j + 1) := by rw [HT1.out, size_tail]
          have hp1 : 0 < t1.size := by omega
          have hc0 : t1[0].toNat = byt q (j + 1) := by rw [byt_get t1 0 hp1, HT1.out, byt_tail]
          have hr1 : ((t1.size : Int) > 2 ↔ j + 3 < q.size) := by omega
          go_cut [50] from 38 to 50 (fun v wx => ∃ rb, v = .bool rb ∧ Hid (isRange q j = rb) ∧ wx = wc)
          case first =>
            by_cases h3 : j + 3 < q.size
            · have hc1 : t1[1].toNat = byt q (j + 2) := by rw [byt_get t1 1 (by omega), HT1.out, byt_tail]
              by_cases h45 : byt q (j + 1) = 45
              · have hq1 : (((byt q (j + 1) : Nat) : Int) == 45) = true := by rw [h45]; rfl
                by_cases h93 : byt q (j + 2) = 93
                · have hq2 : (((byt q (j + 2) : Nat) : Int) != 93) = false := by rw [h93]; rfl
                  have HQ := Lib.hid (show isRange q j = false by rw [← HRG.out, decide_eq_true h3, h45, h93]; rfl)
                  clear h45 h93
                  go_wp2
                  go_meet
                  exact ⟨_, rfl, HQ, rfl⟩
                · have hq2 : (((byt q (j + 2) : Nat) : Int) != 93) = true := by rw [bne_iff_ne]; omega
                  have HQ := Lib.hid (show isRange q j = true by rw [← HRG.out, decide_eq_true h3, h45, beq_eq_false_iff_ne.2 h93]; rfl)
                  clear h45 h93
                  go_wp2
                  go_meet
                  exact ⟨_, rfl, HQ, rfl⟩
              · have hq1 : (((byt q (j + 1) : Nat) : Int) == 45) = false := by rw [beq_eq_false_iff_ne]; omega
                have HQ := Lib.hid (show isRange q j = false by rw [← HRG.out, beq_eq_false_iff_ne.2 h45]; simp)
                clear h45
                go_wp2
                go_meet
                exact ⟨_, rfl, HQ, rfl⟩
            · have HQ := Lib.hid (show isRange q j = false by rw [← HRG.out, decide_eq_false h3]; rfl)
              go_wp2
              go_meet
              exact ⟨_, rfl, HQ, rfl⟩
          case rest =>
            obtain ⟨rb, rfl, HRB, rfl⟩ := hcut
            go_upto_if 50 with fail
            go_cut [6, 11] from 51 to 54 (fun v6 v11 wx => v6 = .string (q.extract (rangeNext q j) q.size) ∧ v11 = .int .u8 (rangeHigh q j) ∧ wx = wc)
            case first =>
              cases rb with
              | true =>
                have HRN := Lib.hid (show rangeNext q j = j + 1 + 2 from if_pos HRB.out)
                have HRH := Lib.hid (show rangeHigh q j = byt q (j + 2) from if_pos HRB.out)
                have h3 : j + 2 < q.size := (isRange_lt HRB.out)
                have hc1 : t1[1].toNat = byt q (j + 2) := by rw [byt_get t1 1 (by omega), HT1.out, byt_tail]
                have HTT := Lib.hid (show t1.extract 2 (q.size - (j + 1)) = q.extract (rangeNext q j) q.size by rw [HRN.out, HT1.out]; exact tail_tail q (j + 1) 2)
                go_wp2
                go_meet
                exact ⟨congrArg Value.string HTT.out, by rw [HRH.out], rfl⟩
              | false =>
                have HRN := Lib.hid (show rangeNext q j = j + 1 from if_neg (by rw [HRB.out]; simp))
                have HRH := Lib.hid (show rangeHigh q j = byt q j from if_neg (by rw [HRB.out]; simp))
                go_wp2
                go_meet
                exact ⟨by rw [HRN.out, HT1.out], by rw [HRH.out], rfl⟩
            case rest =>
              obtain ⟨rfl, rfl, rfl⟩ := hcut
              have hrh := rangeHighS_lt q j
              have hbl := byt_lt q j
              have hnx := HNX.out.1.2.1
              have hgt : j < rangeNext q j := by unfold rangeNext; split <;> omega
              clear hr1
              generalize rangeHigh q j = hi at *
              generalize rangeNext q j = m at *
              generalize byt q j = lo at *
              cases b with
              | true =>
                have HN2 := Lib.hid (show SetSt q c m (kk + 1) true by have h := HNX.out; simpa using h)
                go_wp2
                go_round
                case rel => exact ⟨m, kk + 1, true, _, rfl, rfl, by go_num, Lib.hid rfl, HN2⟩
                case measure => simp [slen]; omega
              | false =>
                by_cases hlo : lo ≤ c
                · by_cases hhi : c ≤ hi
                  · have HN2 := Lib.hid (show SetSt q c m (kk + 1) true by have h := HNX.out; simpa [hlo, hhi] using h)
                    go_wp2
                    go_round
                    case rel => exact ⟨m, kk + 1, true, _, rfl, rfl, by go_num, Lib.hid rfl, HN2⟩
                    case measure => simp [slen]; omega
                  · have HN2 := Lib.hid (show SetSt q c m (kk + 1) false by have h := HNX.out; simpa [hlo, hhi] using h)
                    go_wp2
                    go_round
                    case rel => exact ⟨m, kk + 1, false, _, rfl, rfl, by go_num, Lib.hid rfl, HN2⟩
                    case measure => simp [slen]; omega
                · have HN2 := Lib.hid (show SetSt q c m (kk + 1) false by have h := HNX.out; simpa [hlo] using h)
                  go_wp2
                  go_round
                  case rel => exact ⟨m, kk + 1, false, _, rfl, rfl, by go_num, Lib.hid rfl, HN2⟩
                  case measure => simp [slen]; omega
set_option maxRecDepth 100000 in
theorem GlobSign_any (q : ByteArray) (c : Nat) (hc : c < 256) (w : World) (h1 : 1 ≤ q.size) (h2 : q.size ≤ 400) (he : byt q 0 = 91 → setEnd q 0 + 1 = q.size) :
    Calls Tryd.prog 140 #[.string q, .int .u8 c] w fun e w' => e = .returned (.bool ((tokAt q 0).fits c)) ∧ Below w.heap.size w w' := by
  have hb := byt_get q 0 (by omega)
  have hbl := byt_lt q 0
  by_cases h63 : byt q 0 = 63
  · have HF := Lib.hid (show (tokAt q 0).fits c = true by unfold tokAt; simp only; rw [if_pos h63])
    have hq : (((byt q 0 : Nat) : Int) == 63) = true := by rw [h63]; rfl
    clear h63 he
    go_enter Tryd.func140, Tryd.ntmps140
    go_wp2
    go_ret
    exact ⟨ret_b HF.out, Below.refl _ _⟩
  · have hq : (((byt q 0 : Nat) : Int) == 63) = false := by rw [beq_eq_false_iff_ne]; omega
    by_cases h91 : byt q 0 = 91
    · have HF := Lib.hid (show (tokAt q 0).fits c = (setNot q 0 != setIn q (setFrom q 0) (setFrom q 0) c) by unfold tokAt; simp only; rw [if_neg h63, if_pos h91])
      have hq2 : (((byt q 0 : Nat) : Int) == 91) = true := by rw [h91]; rfl
      have HC := Lib.hid (fun w => GlobSet_any q c hc w h1 h2 (he h91))
      generalize (setNot q 0 != setIn q (setFrom q 0) (setFrom q 0) c) = v at *
      clear h63 h91 he
      go_enter Tryd.func140, Tryd.ntmps140
      go_wp2_with fail
      refine (HC.out _).mono ?_
      rintro e w2 ⟨⟨r, rfl⟩, hb2⟩
      have HB := Lib.hid hb2
      clear hb2
      go_wp2
      go_ret
      exact ⟨ret_b HF.out, HB.out⟩
    · have HF := Lib.hid (show (tokAt q 0).fits c = (c == byt q 0) by unfold tokAt; simp only; rw [if_neg h63, if_neg h91])
      have hq2 : (((byt q 0 : Nat) : Int) == 91) = false := by rw [beq_eq_false_iff_ne]; omega
      clear h63 h91 he
      go_enter Tryd.func140, Tryd.ntmps140
      go_wp2
      go_ret
      refine ⟨ret_b ?_, Below.refl _ _⟩
      rw [HF.out, Bool.eq_iff_iff, beq_iff_eq, beq_iff_eq]
      omega
end Go.Proofs.YtecmcgedeaemgaaDoor
