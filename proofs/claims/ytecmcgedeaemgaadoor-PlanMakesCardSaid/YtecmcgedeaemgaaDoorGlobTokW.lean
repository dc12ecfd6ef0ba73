/-
  The reference's signs of a pattern, walked.
-/
import Derived.Test.YtecmcgedeaemgaaDoorGlobTok
import Derived.Test.YtecmcgedeaemgaaDoorAppend
namespace Go.Creel
set_option linter.unusedVariables false
set_option linter.unusedSimpArgs false
open Go.RowKit
/-- signs handed back, and whether they may be -/
def RetToks (t : TypeId) (w : World) (o : Option (List Tok)) (e : Ending) (w' : World) : Prop := ∃ v, e = .returned (.tuple #[v, .bool o.isSome]) ∧ OwnToks t w' w.heap.size v (o.getD []) ∧ Below w.heap.size w w'
theorem OwnToks.below {t : TypeId} {w w' : World} {B : Nat} {v : Value} {l : List Tok} (h : OwnToks t w B v l) (hb : Below w.heap.size w w') : OwnToks t w' B v l := by
  refine ⟨h.1, ?_⟩
  rcases h.2 with h0 | ⟨g, cap, cur, hv, hbg, hg, r⟩
  · exact .inl h0
  · refine .inr ⟨g, cap, cur, hv, hbg, ?_, r⟩
    rw [hb.block g]
    · exact hg
    · rcases Nat.lt_or_ge g w.heap.size with h' | h'
      · exact h'
      · rw [Array.getElem?_eq_none h'] at hg; cases hg
/-- what the set's loop has said so far -/
def InAt (s : ByteArray) (a j : Nat) (f : Nat → Bool) : Prop := ∀ c, c < 256 → (f c || setIn s a j c) = setIn s a a c
theorem InAt.start (s : ByteArray) (a : Nat) : InAt s a a noFit := fun c _ => by unfold noFit; simp
theorem InAt.next {s : ByteArray} {a j : Nat} {f g : Nat → Bool} (h : InAt s a j f) (hk : j < s.size ∧ (j = a ∨ byt s j ≠ 93)) (hg : ∀ c, c < 256 → g c = (f c || (decide (byt s j ≤ c) && decide (c ≤ rangeHigh s j)))) : InAt s a (rangeNext s j) g := by
  intro c hc
  rw [← h c hc, setIn_more c hk, hg c hc, Bool.or_assoc]
theorem InAt.done {s : ByteArray} {a j : Nat} {f : Nat → Bool} (h : InAt s a j f) (hk : ¬ (j < s.size ∧ (j = a ∨ byt s j ≠ 93))) {c : Nat} (hc : c < 256) : f c = setIn s a a c := by
  rw [← h c hc, setIn_end c hk, Bool.or_false]
theorem rangeHigh_lt (s : ByteArray) (j : Nat) : rangeHigh s j < 256 := by
  unfold rangeHigh
  split <;> exact byt_lt _ _
theorem setFrom_yes {s : ByteArray} {i : Nat} (h : setNot s i = true) : setFrom s i = i + 2 := if_pos h
theorem setFrom_no {s : ByteArray} {i : Nat} (h : setNot s i = false) : setFrom s i = i + 1 := if_neg (by rw [h]; simp)
theorem setNot_yes {s : ByteArray} {i : Nat} (h : setNot s i = true) : i + 1 < s.size ∧ byt s (i + 1) = 33 := by
  unfold setNot at h
  simpa using h
theorem setNot_no {s : ByteArray} {i : Nat} (h : setNot s i = false) : s.size ≤ i + 1 ∨ (i + 1 < s.size ∧ byt s (i + 1) ≠ 33) := by
  unfold setNot at h
  by_cases e : i + 1 < s.size
  · right; simp [e] at h; exact ⟨e, h⟩
  · left; omega
theorem isRange_yes {s : ByteArray} {k : Nat} (h : isRange s k = true) : k + 2 < s.size ∧ byt s (k + 1) = 45 ∧ byt s (k + 2) ≠ 93 := by
  unfold isRange at h
  simp only [Bool.and_eq_true, decide_eq_true_eq, beq_iff_eq, Bool.not_eq_true', beq_eq_false_iff_ne] at h
  exact ⟨h.1.1, h.1.2, h.2⟩
theorem isRange_no {s : ByteArray} {k : Nat} (h : isRange s k = false) : s.size ≤ k + 2 ∨ (k + 2 < s.size ∧ byt s (k + 1) ≠ 45) ∨ (k + 2 < s.size ∧ byt s (k + 1) = 45 ∧ byt s (k + 2) = 93) := by
  unfold isRange at h
  by_cases e : k + 2 < s.size
  · right
    by_cases e1 : byt s (k + 1) = 45
    · right
      simp [e, e1] at h
      exact ⟨e, e1, h⟩
    · exact .inl ⟨e, e1⟩
  · left; omega
end Go.Creel
namespace Go.Proofs.YtecmcgedeaemgaaDoor
set_option linter.unusedVariables false
set_option linter.unusedSimpArgs false
open Go.Creel Go.RowKit
set_option maxRecDepth 100000 in
set_option maxHeartbeats 8000000 in
theorem tokens_any (s : ByteArray) (w : World) (hs : s.size ≤ 4000000000) :
    Calls Tryd.prog 110 #[.string s] w (RetToks 127 w (toks s 0)) := by
  have hz := tok_zero.1
  have hbd := tok_build
  have hst := tok_store
  obtain ⟨i0, hi, hz0, hz1, hz2⟩ := info_parts tok_info
  have HI := Lib.hid (And.intro hi (And.intro hz0 (And.intro hz1 hz2)))
  clear hi hz0 hz1 hz2
  go_enter Tryd.func110, Tryd.ntmps110
  go_wp2
  go_loopw [4, 5] (fun v i wr => ∃ (k : Nat) (l : List Tok), k ≤ s.size ∧ i = .int .i64 k ∧ Hid (ToksAt s k l) ∧ Hid (OwnToks 127 wr w.heap.size v l) ∧ Hid (Below w.heap.size w wr)) (fun _ i _ => s.size - (intOf i).toNat)
  case atStart => exact ⟨0, [], by omega, rfl, Lib.hid (ToksAt.start s), Lib.hid (OwnToks.nil _ _ _), Lib.hid (Below.refl _ _)⟩
  case round =>
    obtain ⟨k, l, hk, rfl, HT, HO, HB⟩ := hrel
    by_cases hlt : k < s.size
    · have hby := byt_get s k hlt
      have HSTAR := Lib.hid (show (((byt s k : Nat) : Int) == 42) = (tokAt s k).star by
        show _ = (byt s k == 42)
        rw [Bool.eq_iff_iff, beq_iff_eq, beq_iff_eq]; omega)
      go_upto_block 2 with fail
      clear hz hbd hst
      generalize (((byt s k : Nat) : Int) == 42) = st at *
      go_cut [5] from 7 to 144 (fun i5 wx => ∃ f : Nat → Bool, i5 = .int .i64 (tokNext s k - 1 : Nat) ∧ wx = wr.alloc (.cells (tokArr st f) 127) ∧ Hid (∀ c, c < 256 → f c = (tokAt s k).fits c) ∧ Hid (¬ tokBad s k))
      case first =>
        by_cases h63 : byt s k = 63
        · have HFI := Lib.hid (show ∀ c, (tokAt s k).fits c = true from fun c => by unfold tokAt; simp only; rw [if_pos h63])
          have hnx : tokNext s k - 1 = k := by unfold tokNext; rw [if_neg (by omega)]; omega
          have HNB := Lib.hid (show ¬ tokBad s k from fun h => by unfold tokBad at h; omega)
          have hq : (((byt s k : Nat) : Int) == 63) = true := by rw [h63]; rfl
          clear h63
          go_wp2
          go_loopw [7] (fun i w5 => ∃ (j : Nat) (f : Nat → Bool), j ≤ 256 ∧ i = .int .i64 j ∧ w5 = wr.alloc (.cells (tokArr st f) 127) ∧ Hid (∀ c, c < 256 → f c = decide (c < j))) (fun i _ => 256 - (intOf i).toNat)
          case atStart => exact ⟨0, noFit, by omega, rfl, rfl, Lib.hid (fun c _ => (decide_eq_false (by omega)).symm)⟩
          case round =>
            obtain ⟨j, f, hj, rfl, rfl, HF⟩ := hrel
            by_cases hj2 : j < 256
            · have hc := tokArr_at st f hj2
              have hset := tokArr_set st f j true
              go_wp2
              go_roundw
              case rel => exact ⟨j + 1, _, by omega, by go_num, rfl, Lib.hid (fun c hc => by
                by_cases e : c = j
                · rw [e, tokUpd_same]; exact (decide_eq_true (by omega)).symm
                · rw [tokUpd_other _ _ e, HF.out c hc]; exact decide_eq_decide.2 (by omega))⟩
              case measure => simp [intOf]; omega
            · obtain rfl : j = 256 := by omega
              go_wp2
              go_meet
              exact ⟨f, by rw [hnx], rfl, Lib.hid (fun c hc => by rw [HF.out c hc, HFI.out c]; exact decide_eq_true hc), HNB⟩
        · have hq : (((byt s k : Nat) : Int) == 63) = false := by rw [beq_eq_false_iff_ne]; omega
          by_cases h91 : byt s k = 91
          · have hq2 : (((byt s k : Nat) : Int) == 91) = true := by rw [h91]; rfl
            have HFI := Lib.hid (show ∀ c, (tokAt s k).fits c = (setNot s k != setIn s (setFrom s k) (setFrom s k) c) from fun c => by unfold tokAt; simp only; rw [if_neg h63, if_pos h91])
            have hnx : tokNext s k = setEnd s k + 1 := by unfold tokNext; rw [if_pos h91]
            have HBAD := Lib.hid (fun (h : s.size ≤ setEnd s k) => HT.out.bad hlt ⟨h91, h⟩)
            have HGOOD := Lib.hid (fun (h : ¬ s.size ≤ setEnd s k) (hb : tokBad s k) => h hb.2)
            have HSA := Lib.hid (SetAt.start hlt)
            have HSB := Lib.hid (fun (j : Nat) (h : SetAt s k j) (hj : j < s.size) => @SetAt.next s k j h hj)
            clear h63 h91
            have hfg := setFrom_gt s k
            have hfl := setFrom_le hlt
            go_upto_region 14 with fail
            go_cut [9] from 45 to 54 (fun n9 wx => ∃ nb, n9 = .bool nb ∧ Hid (setNot s k = nb) ∧ wx = wr.alloc (.cells (tokArr st noFit) 127))
            case first =>
              cases hn : setNot s k with
              | true =>
                obtain ⟨h1, h2⟩ := setNot_yes hn
                have hb1 := byt_get s (k + 1) h1
                have hq3 : (((byt s (k + 1) : Nat) : Int) == 33) = true := by rw [h2]; rfl
                have HN := Lib.hid hn
                clear h2 hn
                go_wp2
                go_meet
                exact ⟨_, rfl, HN, rfl⟩
              | false =>
                rcases setNot_no hn with h1 | ⟨h1, h2⟩
                · have HN := Lib.hid hn
                  clear hn
                  go_wp2
                  go_meet
                  exact ⟨_, rfl, HN, rfl⟩
                · have hb1 := byt_get s (k + 1) h1
                  have hq3 : (((byt s (k + 1) : Nat) : Int) == 33) = false := by rw [beq_eq_false_iff_ne]; omega
                  have HN := Lib.hid hn
                  clear h2 hn
                  go_wp2
                  go_meet
                  exact ⟨_, rfl, HN, rfl⟩
            case rest =>
              obtain ⟨nb, rfl, HNB, rfl⟩ := hcut
              go_upto_if 55 with fail
              go_cut [8] from 56 to 57 (fun k8 wx => k8 = .int .i64 (setFrom s k) ∧ wx = wr.alloc (.cells (tokArr st noFit) 127))
              case first =>
                cases nb with
                | true =>
                  have HF := Lib.hid (setFrom_yes HNB.out)
                  go_wp2
                  go_meet
                  exact ⟨by rw [HF.out]; go_num, rfl⟩
                | false =>
                  have HF := Lib.hid (setFrom_no HNB.out)
                  go_wp2
                  go_meet
                  exact ⟨by rw [HF.out]; go_num, rfl⟩
              case rest =>
                obtain ⟨rfl, rfl⟩ := hcut
                go_wp2
                go_loopw [8, 11, 12, 13] (fun k8 _ _ _ w5 => ∃ (j : Nat) (f : Nat → Bool), k8 = .int .i64 j ∧ Hid (SetAt s k j) ∧ j ≤ s.size ∧ setFrom s k ≤ j ∧ w5 = wr.alloc (.cells (tokArr st f) 127) ∧ Hid (InAt s (setFrom s k) j f)) (fun k8 _ _ _ _ => s.size - (intOf k8).toNat)
                case atStart => exact ⟨setFrom s k, noFit, rfl, HSA, by omega, Nat.le_refl _, rfl, Lib.hid (InAt.start s _)⟩
                case round =>
                  obtain ⟨j, f, rfl, HJ, hjl, hjf, rfl, HIN⟩ := hrel
                  go_upto_region 18 with fail
                  go_cut [73] from 59 to 73 (fun c wx => ∃ b, c = .bool b ∧ Hid (b = decide (j < s.size ∧ (j = setFrom s k ∨ byt s j ≠ 93))) ∧ wx = wr.alloc (.cells (tokArr st f) 127))
                  case first =>
                    by_cases hjs : j < s.size
                    · have hbj := byt_get s j hjs
                      by_cases hja : j = setFrom s k
                      · have HD := Lib.hid (show decide (j < s.size ∧ (j = setFrom s k ∨ byt s j ≠ 93)) = true from decide_eq_true ⟨hjs, .inl hja⟩)
                        have hq3 : (((j : Nat) : Int) == ((setFrom s k : Nat) : Int)) = true := by rw [← hja]; simp
                        clear hja
                        go_wp2
                        go_meet
                        exact ⟨_, rfl, Lib.hid HD.out.symm, rfl⟩
                      · have hq3 : (((j : Nat) : Int) == ((setFrom s k : Nat) : Int)) = false := by rw [beq_eq_false_iff_ne]; omega
                        by_cases h93 : byt s j = 93
                        · have HD := Lib.hid (show decide (j < s.size ∧ (j = setFrom s k ∨ byt s j ≠ 93)) = false from decide_eq_false (by omega))
                          have hq4 : (((byt s j : Nat) : Int) != 93) = false := by rw [h93]; rfl
                          clear h93 hja
                          go_wp2
                          go_meet
                          exact ⟨_, rfl, Lib.hid HD.out.symm, rfl⟩
                        · have HD := Lib.hid (show decide (j < s.size ∧ (j = setFrom s k ∨ byt s j ≠ 93)) = true from decide_eq_true (by omega))
                          have hq4 : (((byt s j : Nat) : Int) != 93) = true := by rw [bne_iff_ne]; omega
                          clear h93 hja
                          go_wp2
                          go_meet
                          exact ⟨_, rfl, Lib.hid HD.out.symm, rfl⟩
                    · have HD := Lib.hid (show decide (j < s.size ∧ (j = setFrom s k ∨ byt s j ≠ 93)) = false from decide_eq_false (by omega))
                      go_wp2
                      go_meet
                      exact ⟨_, rfl, Lib.hid HD.out.symm, rfl⟩
                  case rest =>
                    obtain ⟨b, rfl, HBQ, rfl⟩ := hcut
                    by_cases hgo : j < s.size ∧ (j = setFrom s k ∨ byt s j ≠ 93)
                    · have hd : b = true := HBQ.out.trans (decide_eq_true hgo)
                      subst hd
                      have hjs := hgo.1
                      have HNX := Lib.hid (HSB.out j HJ.out hjs hgo.2)
                      have HGN := Lib.hid (fun g => HIN.out.next (g := g) hgo)
                      have hnx1 := HNX.out.2
                      have hnx2 := HNX.out.1.2.1
                      have hbj := byt_get s j hjs
                      have hbl := byt_lt s j
                      have hrh := rangeHigh_lt s j
                      clear hgo
                      go_upto_region 21 with fail
                      go_cut [96] from 78 to 96 (fun c wx => ∃ rb, c = .bool rb ∧ Hid (isRange s j = rb) ∧ wx = wr.alloc (.cells (tokArr st f) 127))
                      case first =>
                        cases hr : isRange s j with
                        | true =>
                          obtain ⟨h1, h2, h3⟩ := isRange_yes hr
                          have hb1 := byt_get s (j + 1) (by omega)
                          have hb2 := byt_get s (j + 2) h1
                          have hq3 : (((byt s (j + 1) : Nat) : Int) == 45) = true := by rw [h2]; rfl
                          have hq4 : (((byt s (j + 2) : Nat) : Int) != 93) = true := by rw [bne_iff_ne]; omega
                          have HR := Lib.hid hr
                          clear h2 h3 hr
                          go_wp2
                          go_meet
                          exact ⟨_, rfl, HR, rfl⟩
                        | false =>
                          rcases isRange_no hr with h1 | ⟨h1, h2⟩ | ⟨h1, h2, h3⟩
                          · have HR := Lib.hid hr
                            clear hr
                            go_wp2
                            go_meet
                            exact ⟨_, rfl, HR, rfl⟩
                          · have hb1 := byt_get s (j + 1) (by omega)
                            have hq3 : (((byt s (j + 1) : Nat) : Int) == 45) = false := by rw [beq_eq_false_iff_ne]; omega
                            have HR := Lib.hid hr
                            clear h2 hr
                            go_wp2
                            go_meet
                            exact ⟨_, rfl, HR, rfl⟩
                          · have hb1 := byt_get s (j + 1) (by omega)
                            have hb2 := byt_get s (j + 2) h1
                            have hq3 : (((byt s (j + 1) : Nat) : Int) == 45) = true := by rw [h2]; rfl
                            have hq4 : (((byt s (j + 2) : Nat) : Int) != 93) = false := by rw [h3]; rfl
                            have HR := Lib.hid hr
                            clear h2 h3 hr
                            go_wp2
                            go_meet
                            exact ⟨_, rfl, HR, rfl⟩
                      case rest =>
                        obtain ⟨rb, rfl, HRB, rfl⟩ := hcut
                        go_upto_if 96 with fail
                        go_cut [8, 12] from 97 to 102 (fun k8 h12 wx => k8 = .int .i64 (rangeNext s j - 1 : Nat) ∧ h12 = .int .u8 (rangeHigh s j) ∧ wx = wr.alloc (.cells (tokArr st f) 127))
                        case first =>
                          cases rb with
                          | true =>
                            have hr := HRB.out
                            obtain ⟨h1, h2, h3⟩ := isRange_yes hr
                            have hb2 := byt_get s (j + 2) h1
                            have HN := Lib.hid (show rangeNext s j - 1 = j + 2 by unfold rangeNext; rw [if_pos hr]; omega)
                            have HH := Lib.hid (show rangeHigh s j = byt s (j + 2) from if_pos hr)
                            clear h2 h3 hr
                            go_wp2
                            go_meet
                            exact ⟨by rw [HN.out]; go_num, by rw [HH.out], rfl⟩
                          | false =>
                            have hr := HRB.out
                            have HN := Lib.hid (show rangeNext s j - 1 = j by unfold rangeNext; rw [if_neg (by rw [hr]; simp)]; omega)
                            have HH := Lib.hid (show rangeHigh s j = byt s j from if_neg (by rw [hr]; simp))
                            clear hr
                            go_wp2
                            go_meet
                            exact ⟨by rw [HN.out], by rw [HH.out], rfl⟩
                        case rest =>
                          obtain ⟨rfl, rfl, rfl⟩ := hcut
                          have HRN := Lib.hid (show ((rangeNext s j - 1 : Nat) : Int) + 1 = ((rangeNext s j : Nat) : Int) by omega)
                          generalize rangeNext s j = m at *
                          generalize rangeHigh s j = hi at *
                          go_wp2
                          go_loopw [13] (fun c w5 => ∃ (x : Nat) (g : Nat → Bool), c = .int .i64 x ∧ byt s j ≤ x ∧ x ≤ 256 ∧ (x ≤ hi + 1 ∨ x = byt s j) ∧ w5 = wr.alloc (.cells (tokArr st g) 127) ∧ Hid (∀ c, c < 256 → g c = (f c || (decide (byt s j ≤ c) && decide (c < x))))) (fun c _ => 256 - (intOf c).toNat)
                          case atStart => exact ⟨byt s j, f, rfl, Nat.le_refl _, by omega, .inr rfl, rfl, Lib.hid (fun c _ => by
                            have : (decide (byt s j ≤ c) && decide (c < byt s j)) = false := by
                              rw [Bool.and_eq_false_iff, decide_eq_false_iff_not, decide_eq_false_iff_not]; omega
                            rw [this, Bool.or_false])⟩
                          case round =>
                            obtain ⟨x, g, rfl, hx1, hx2, hx3, rfl, HG⟩ := hrel
                            by_cases hxh : x ≤ hi
                            · have hx256 : x < 256 := by omega
                              have hc := tokArr_at st g hx256
                              have hset := tokArr_set st g x true
                              clear hx3
                              go_wp2
                              go_roundw
                              case rel => exact ⟨x + 1, _, by go_num, by omega, by omega, .inl (by omega), rfl, Lib.hid (fun c hc => by
                                by_cases e : c = x
                                · rw [e, tokUpd_same]
                                  have : (decide (byt s j ≤ x) && decide (x < x + 1)) = true := by
                                    rw [Bool.and_eq_true, decide_eq_true_eq, decide_eq_true_eq]; omega
                                  rw [this, Bool.or_true]
                                · rw [tokUpd_other _ _ e, HG.out c hc]
                                  congr 2
                                  exact decide_eq_decide.2 (by omega))⟩
                              case measure => simp [intOf]; omega
                            · have HG2 := Lib.hid (HGN.out g (fun c hc => by
                                rw [HG.out c hc]
                                congr 1
                                rw [Bool.eq_iff_iff]
                                simp only [Bool.and_eq_true, decide_eq_true_eq]
                                omega))
                              clear hx3
                              go_wp2
                              go_roundw
                              case rel => exact ⟨m, g, by rw [HRN.out], Lib.hid HNX.out.1, by omega, HNX.out.1.1, rfl, HG2⟩
                              case measure => simp [intOf]; omega
                    · have hd : b = false := HBQ.out.trans (decide_eq_false hgo)
                      subst hd
                      have HDN := Lib.hid (fun (c : Nat) (hc : c < 256) => HIN.out.done hgo hc)
                      by_cases hjs : j < s.size
                      · have hja : j ≠ setFrom s k := fun e => hgo ⟨hjs, .inl e⟩
                        have h93 : byt s j = 93 := Classical.byContradiction fun e => hgo ⟨hjs, .inr e⟩
                        have hse := HJ.out.good hjs hja h93
                        have hq3 : (((j : Nat) : Int) == ((setFrom s k : Nat) : Int)) = false := by rw [beq_eq_false_iff_ne]; omega
                        have HTB := Lib.hid (HGOOD.out (by omega))
                        have HNX := Lib.hid (show tokNext s k - 1 = j by omega)
                        clear hgo hja h93 hse hnx
                        cases nb with
                        | true =>
                          have HFJ := Lib.hid (fun (c : Nat) => by have e := HFI.out c; rw [HNB.out] at e; exact e)
                          go_wp2
                          go_loopw [14] (fun c w5 => ∃ (x : Nat) (g : Nat → Bool), c = .int .i64 x ∧ x ≤ 256 ∧ w5 = wr.alloc (.cells (tokArr st g) 127) ∧ Hid (∀ c, c < 256 → g c = if c < x then !f c else f c)) (fun c _ => 256 - (intOf c).toNat)
                          case atStart => exact ⟨0, f, rfl, by omega, rfl, Lib.hid (fun c _ => by rw [if_neg (by omega)])⟩
                          case round =>
                            obtain ⟨x, g, rfl, hx2, rfl, HG⟩ := hrel
                            by_cases hx256 : x < 256
                            · have hc := tokArr_at st g hx256
                              have hset := tokArr_set st g x (!g x)
                              go_wp2
                              go_roundw
                              case rel => exact ⟨x + 1, _, by go_num, by omega, rfl, Lib.hid (fun c hc => by
                                by_cases e : c = x
                                · rw [e, tokUpd_same, HG.out x hx256, if_neg (by omega), if_pos (by omega)]
                                · rw [tokUpd_other _ _ e, HG.out c hc]
                                  by_cases e2 : c < x
                                  · rw [if_pos e2, if_pos (by omega)]
                                  · rw [if_neg e2, if_neg (by omega)])⟩
                              case measure => simp [intOf]; omega
                            · go_wp2
                              go_meet
                              exact ⟨g, by rw [HNX.out], rfl, Lib.hid (fun c hc => by rw [HG.out c hc, if_pos (by omega), HFJ.out c, HDN.out c hc]; simp), HTB⟩
                        | false =>
                          have HFJ := Lib.hid (fun (c : Nat) => by have e := HFI.out c; rw [HNB.out] at e; exact e)
                          go_wp2
                          go_meet
                          exact ⟨f, by rw [HNX.out], rfl, Lib.hid (fun c hc => by rw [HFJ.out c, HDN.out c hc]; simp), HTB⟩
                      · have HF := Lib.hid (HBAD.out (by obtain rfl : j = s.size := by omega
                                                         exact HJ.out.bad))
                        clear hgo hnx
                        go_wp2
                        go_ret2
                        rw [HF.out]
                        exact ⟨_, rfl, OwnToks.nil _ _ _, HB.out.alloc HB.out.size _⟩
          · have hq2 : (((byt s k : Nat) : Int) == 91) = false := by rw [beq_eq_false_iff_ne]; omega
            have HFI := Lib.hid (show ∀ c, (tokAt s k).fits c = (c == byt s k) from fun c => by unfold tokAt; simp only; rw [if_neg h63, if_neg h91])
            have hnx : tokNext s k - 1 = k := by unfold tokNext; rw [if_neg (by omega)]; omega
            have HNB := Lib.hid (show ¬ tokBad s k from fun h => by unfold tokBad at h; omega)
            have hbl := byt_lt s k
            have hc := tokArr_at st noFit hbl
            have hset := tokArr_set st noFit (byt s k) true
            clear h63 h91
            go_wp2
            go_meet
            exact ⟨_, by rw [hnx], rfl, Lib.hid (fun c hc => by
              rw [HFI.out c]
              by_cases e : c = byt s k
              · rw [e, tokUpd_same]; simp
              · rw [tokUpd_other _ _ e]; simp [noFit, e]), HNB⟩
      case rest =>
        obtain ⟨f, rfl, rfl, HF, HNB⟩ := hcut
        have HNX := Lib.hid (HT.out.next hlt HNB.out)
        have hgt := tokNext_gt s k
        have hle := tokNext_le hlt HNB.out
        have hll := HT.out.2.1
        have hbb := ((Below.refl wr.heap.size wr).alloc (Nat.le_refl _) (.cells (tokArr st f) 127)).alloc (by simp) (.cells (tokArr st f) 127)
        have HO3 := Lib.hid (HO.out.below hbb)
        have HB3 := Lib.hid (HB.out.trans (hbb.mono HB.out.size))
        have HSZ := Lib.hid HB3.out.size
        have HX := Lib.hid (show ∀ c, c < 256 → f c = (⟨st, (tokAt s k).fits⟩ : Tok).fits c from HF.out)
        have HEQ := Lib.hid (show (⟨st, (tokAt s k).fits⟩ : Tok) = tokAt s k by rw [HSTAR.out])
        have hm : ((tokNext s k - 1 : Nat) : Int) + 1 = ((tokNext s k : Nat) : Int) := by omega
        have HM := Lib.hid hm
        clear hbb hm
        generalize tokNext s k = m at *
        go_wp2_with (first | (refine wpList_load_row rfl 127 (.tmp 6) rfl _ rfl 127 (tokArr st f) (0, 0) _ (heap_alloc_new wr _) Tryd.underlying127 rfl (by rw [tokArr_size]; exact tok_zero.2) ?_) | (refine wpList_buildSlice rfl 121 127 1 _ rfl (tokArr st f) i0 _ Tryd.underlying121 HI.out.1 HI.out.2.1 (by rw [HI.out.2.2.1]; decide) (by rw [HI.out.2.2.1]; decide) (by rw [HI.out.2.2.1]; refine (congrArg (Instr.fill _ _) (?_ : _ = [(0, Value.agg (tokArr st f))])).trans (tok_fill st f); kernel_rfl) ?_) | (at_builtin; refine wpList_app _ rfl (.tmp 139) (.tmp 141) 121 121 rfl _ _ rfl rfl (fun ty => app_src _ 121 121 ty w.heap.size 127 i0 _ 257 257 Tryd.underlying121 HI.out.1 HI.out.2.1 HI.out.2.2.1 HI.out.2.2.2 (tokArr_size _ _) (by decide) _ _ l.length 1 _ _ HO3.out (src_tok (wr.alloc (.cells (tokArr st f) 127)) (by simp) _ _ _ Tryd.underlying121 st f) (by unfold maxLen; omega) (by omega) HSZ.out) ?_; intro v1 w1 ho hg _))
        have HO4 := Lib.hid (OwnToks.app (x := ⟨st, (tokAt s k).fits⟩) HX.out ho)
        have HB4 := Lib.hid (below_app HB3.out hg HO3.out HSZ.out)
        rw [HEQ.out] at HO4
        clear ho hg
        go_wp2
        go_roundw
        case rel => exact ⟨m, _, by omega, by rw [HM.out], HNX, HO4, HB4⟩
        case measure => simp [intOf]; omega
    · obtain rfl : k = s.size := by omega
      have HF := Lib.hid HT.out.done
      go_wp2
      go_ret2
      rw [HF.out]
      exact ⟨_, rfl, HO.out, HB.out⟩
end Go.Proofs.YtecmcgedeaemgaaDoor
