/-
  glob.split, walked.
-/
import Derived.Test.YtecmcgedeaemgaaDoorGlobSetW
namespace Go.Creel
set_option linter.unusedVariables false
set_option linter.unusedSimpArgs false
open Go.RowKit
/-- the texts so far, and those behind -/
def CutAt (p : ByteArray) (i : Nat) (l : List ByteArray) : Prop := i ≤ p.size ∧ l.length ≤ i ∧ okAt p i = true ∧ l ++ cuts p i = cuts p 0
theorem CutAt.start {p : ByteArray} (h : okAt p 0 = true) : CutAt p 0 [] := ⟨Nat.zero_le _, Nat.le_refl _, h, rfl⟩
theorem CutAt.good {p : ByteArray} {i : Nat} {l : List ByteArray} (h : CutAt p i l) (hi : i < p.size) : ¬ tokBad p i := fun hb => by
  have := h.2.2.1
  rw [okAt_bad hi hb] at this
  cases this
theorem CutAt.next {p : ByteArray} {i : Nat} {l : List ByteArray} (h : CutAt p i l) (hi : i < p.size) : CutAt p (tokNext p i) (l ++ [tokText p i]) := by
  have hb := h.good hi
  have hg := tokNext_gt p i
  refine ⟨tokNext_le hi hb, by have := h.2.1; simp; omega, by rw [← okAt_more hi hb]; exact h.2.2.1, ?_⟩
  rw [← h.2.2.2, cuts_more hi hb]
  simp
theorem CutAt.done {p : ByteArray} {l : List ByteArray} (h : CutAt p p.size l) : l = cuts p 0 := by
  rw [← h.2.2.2, cuts_end (Nat.le_refl _), List.append_nil]
theorem tail_front (s : ByteArray) {i m : Nat} (h : i + m ≤ s.size) : (s.extract i s.size).extract 0 m = s.extract i (i + m) := by
  apply ext_bytes
  rw [Lib.extract_data, Lib.extract_data, Lib.extract_data, List.drop_zero, Nat.sub_zero, List.take_take]
  congr 1
  omega
end Go.Creel
namespace Go.Proofs.YtecmcgedeaemgaaDoor
set_option linter.unusedVariables false
set_option linter.unusedSimpArgs false
open Go.Creel Go.RowKit
set_option maxRecDepth 100000 in
set_option maxHeartbeats 2000000 in
theorem GlobSplit_any (p : ByteArray) (w : World) (hok : okAt p 0 = true) (hs : p.size ≤ 400) :
    Calls Tryd.prog 137 #[.string p] w (RetSs 9 w (cuts p 0)) := by
  obtain ⟨i0, hi, hz0, hz1, hz2⟩ := info_parts info_string
  have HI := Lib.hid (And.intro hi (And.intro hz0 (And.intro hz1 hz2)))
  have HST := Lib.hid (CutAt.start hok)
  clear hi hz0 hz1 hz2 hok
  go_enter Tryd.func137, Tryd.ntmps137
  go_wp2
  go_loopw [0, 3, 4] (fun s v _ wr => ∃ (i : Nat) (l : List ByteArray) (t : ByteArray), s = .string t ∧ Hid (t = p.extract i p.size) ∧ Hid (CutAt p i l) ∧ Hid (OwnSs 9 wr w.heap.size v l) ∧ Hid (Below w.heap.size w wr)) (fun s _ _ _ => slen s)
  case atStart => exact ⟨0, [], p, rfl, Lib.hid (whole_tail p), HST, Lib.hid (World.ownsRow_nil w _ _ 1), Lib.hid (Below.refl _ _)⟩
  case round =>
    obtain ⟨i, l, t, rfl, HT, HC, HO, HB⟩ := hrel
    have hip := HC.out.1
    have hll := HC.out.2.1
    have hsz : t.size = p.size - i := by rw [HT.out, size_tail]
    by_cases h0 : t.size = 0
    · have he := empty_t h0
      have hie : i = p.size := by omega
      subst hie
      have HD := Lib.hid HC.out.done
      clear h0
      go_wp2
      go_ret
      exact ⟨_, rfl, by rw [← HD.out]; exact HO.out, HB.out⟩
    · have he := empty_f h0
      have hi : i < p.size := by omega
      have hp0 : 0 < t.size := by omega
      have hnb := HC.out.good hi
      have HNX := Lib.hid (HC.out.next hi)
      have hng := tokNext_gt p i
      have hnl := tokNext_le hi hnb
      have hb0 : t[0].toNat = byt p i := by rw [byt_get t 0 hp0, HT.out, byt_tail]; rfl
      have hbl := byt_lt p i
      obtain ⟨m, hm⟩ : ∃ m, tokNext p i = i + m := ⟨tokNext p i - i, by omega⟩
      have HT0 := Lib.hid (show t.extract 0 m = tokText p i by
        unfold tokText
        rw [hm, HT.out]
        exact tail_front p (by omega))
      have HT1 := Lib.hid (show t.extract m t.size = p.extract (tokNext p i) p.size by rw [hm]; exact tail_back HT.out m)
      have HE := Lib.hid (fun (h : byt p i = 91) => show endOf t = (m : Int) by
        have hx : ¬ p.size ≤ setEnd p i := fun hx => hnb ⟨h, hx⟩
        have e1 : tokNext p i = setEnd p i + 1 := by unfold tokNext; rw [if_pos h]
        rw [HT.out, endOf_ok hi hx]
        omega)
      have HM := Lib.hid (fun (h : ¬ byt p i = 91) => show m = 1 by
        have e1 : tokNext p i = i + 1 := by unfold tokNext; rw [if_neg h]
        omega)
      have hm1 : 1 ≤ m := by omega
      have hmt : m ≤ t.size := by omega
      have HBX := Lib.hid (HB.out.alloc HB.out.size (.cells #[.string (t.extract 0 m)] 9))
      have HO1 := Lib.hid (HO.out.below ((Below.refl wr.heap.size wr).alloc (Nat.le_refl _) (.cells #[.string (t.extract 0 m)] 9)))
      have HSZ := Lib.hid HBX.out.size
      clear hnb h0
      generalize tokText p i = x at *
      generalize tokNext p i = nx at *
      go_upto_if 9 with fail
      generalize hq9 : (((byt p i : Nat) : Int) == 91) = q9 at *
      have HQ9 := Lib.hid hq9
      clear hq9
      go_cut [4] from 10 to 11 (fun k4 wx => k4 = .int .i64 m ∧ wx = wr)
      case first =>
        cases q9 with
        | true =>
          have HEM := Lib.hid (HE.out (by have := HQ9.out; rw [beq_iff_eq] at this; omega))
          go_wp2_with fail
          refine (GlobEnd_any t _ (by omega) (by unfold maxLen; omega)).mono ?_
          rintro e w' ⟨rfl, rfl⟩
          rw [HEM.out]
          go_wp2
          go_meet
          exact ⟨rfl, rfl⟩
        | false =>
          have HM1 := Lib.hid (HM.out (by have := HQ9.out; rw [beq_eq_false_iff_ne] at this; omega))
          go_wp2
          go_meet
          exact ⟨by rw [HM1.out]; rfl, rfl⟩
      case rest =>
        obtain ⟨rfl, hwx⟩ := hcut
        rw [hwx]
        clear hwx
        go_wp2_with (at_builtin; refine wpList_app _ rfl (.tmp 12) (.tmp 16) 56 56 rfl _ _ rfl rfl (n := l.length) (fun ty => app_src _ _ _ _ w.heap.size 9 i0 (.string ByteArray.empty) 1 16 Tryd.underlying56 HI.out.1 HI.out.2.1 HI.out.2.2.1 HI.out.2.2.2 rfl (by decide) _ _ _ _ _ _ HO1.out (src_one wr _ _ _ Tryd.underlying56 _ rfl) (by unfold maxLen; omega) (by omega) HSZ.out) ?_; intro v1 w1 ho hg _)
        have HO2 := Lib.hid (OwnSs.app (m := [t.extract 0 m]) ho)
        have HB2 := Lib.hid (below_app HBX.out hg HO1.out HSZ.out)
        rw [HT0.out] at HO2
        clear ho hg
        have htm : (t.extract m t.size).size < t.size := by simp; omega
        go_wp2
        go_roundw
        case rel => exact ⟨nx, _, _, rfl, Lib.hid (by rw [← hsz]; exact HT1.out), HNX, HO2, HB2⟩
        case measure => simp [slen]; omega
end Go.Proofs.YtecmcgedeaemgaaDoor
