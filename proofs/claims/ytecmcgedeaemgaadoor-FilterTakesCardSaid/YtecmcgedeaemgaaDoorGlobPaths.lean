/-
  glob.Fits and its reference, walked.
-/
import Derived.Test.YtecmcgedeaemgaaDoorGlobPart
import Derived.Test.YtecmcgedeaemgaaDoorGlobPartR
import Derived.Test.YtecmcgedeaemgaaDoorGlobFault
import Derived.Test.YtecmcgedeaemgaaDoorPathFault
namespace Go.Creel
set_option linter.unusedVariables false
set_option linter.unusedSimpArgs false
open Go.RowKit
/-- what the closures read: the parts of the pattern, and those of the path -/
structure PathE (t : TypeId) (w : World) (bp bs : Nat) (vp vs : Value) (B C : Nat) (P S : List ByteArray) : Prop where
  pat : w.cell? ⟨bp, 0, none⟩ = some vp
  ownp : OwnSs t w B vp P
  txt : w.cell? ⟨bs, 0, none⟩ = some vs
  owns : OwnSs t w C vs S
theorem PathE.below {t : TypeId} {w w' : World} {bp bs B C : Nat} {vp vs : Value} {P S : List ByteArray} (h : PathE t w bp bs vp vs B C P S) (hb : Below w.heap.size w w') : PathE t w' bp bs vp vs B C P S :=
  ⟨(hb.cell (p := ⟨bp, 0, none⟩) (World.block_lt_of_cell? w _ h.pat)).trans h.pat, h.ownp.below hb, (hb.cell (p := ⟨bs, 0, none⟩) (World.block_lt_of_cell? w _ h.txt)).trans h.txt, h.owns.below hb⟩
def starS (P : List ByteArray) (i : Nat) : Bool := (piece P i).toList == [42, 42]
def fitsS (P S : List ByteArray) (i k : Nat) : Bool := partFits (piece P i) (piece S k)
/-- parts that are right -/
structure PartsOk (P S : List ByteArray) : Prop where
  np : P.length ≤ 1000
  ns : S.length ≤ 1000
  p0 : 0 < P.length
  s0 : 0 < S.length
  ok : ∀ i, i < P.length → okAt (piece P i) 0 = true ∧ 1 ≤ (piece P i).size ∧ (piece P i).size ≤ 400
  size : ∀ k, k < S.length → (piece S k).size ≤ 400
theorem PartsOk.mk' {p s : ByteArray} (h : globFault p = 0) (h2 : pathFault s = 0) : PartsOk (partsS 47 p) (partsS 47 s) := by
  obtain ⟨a1, a2, a3⟩ := globFault_inv h
  obtain ⟨b1, b2⟩ := pathFault_inv h2
  have l1 := partsS_len 47 p
  have l2 := partsS_len 47 s
  exact ⟨by omega, by omega, partsS_pos _ _, partsS_pos _ _, fun i hi => ⟨(a3 i hi).1, (a3 i hi).2, piece_le (partsS_size a2) i⟩, fun k hk => piece_le (partsS_size b2) k⟩
theorem globFits_eq (p s : ByteArray) : wildM (partsS 47 p).length (partsS 47 s).length (starS (partsS 47 p)) (fitsS (partsS 47 p) (partsS 47 s)) 0 0 = globFits p s := rfl
theorem globFits_eqP (p s : ByteArray) : wildP (starS (partsS 47 p)) (fitsS (partsS 47 p) (partsS 47 s)) (partsS 47 p).length (partsS 47 s).length = globFits p s := (globFits_table p s).symm
theorem ret_bi {a : Bool} {b : Int} {p : Bool × Int} (h : p = (a, b)) : Ending.returned (.tuple #[.bool a, .int .i64 b]) = .returned (.tuple #[.bool p.1, .int .i64 p.2]) := by rw [h]
theorem pathParts_pos {s : ByteArray} (h : 1 ≤ s.size) : pathParts s = partsS 47 s := by unfold pathParts; rw [if_neg (by omega)]
end Go.Creel
namespace Go.Proofs.YtecmcgedeaemgaaDoor
set_option linter.unusedVariables false
set_option linter.unusedSimpArgs false
open Go.Creel Go.RowKit
section
variable (bp bs B C i k : Nat) (vp vs : Value) (P S : List ByteArray) (w : World)
set_option maxRecDepth 100000 in
theorem Parts1_any (h : PathE 9 w bp bs vp vs B C P S) (hi : i < P.length) (hl : P.length ≤ 1000) :
    Calls Tryd.prog 107 #[.int .i64 i, .pointer (some ⟨bp, 0, none⟩)] w fun e w' => e = .returned (.bool (starS P i)) ∧ Below w.heap.size w w' := by
  have c0 := h.pat
  have ho := h.ownp
  unfold starS
  rcases ho.form with ⟨_, e0⟩ | ⟨g, cap, rfl, _, _, hcap, hcm⟩
  · subst e0; exact absurd hi (by simp)
  · have c1 := ho.cell hi
    clear h ho
    unfold maxLen at hcm
    generalize piece P i = p at *
    go_enter Tryd.func107, Tryd.ntmps107
    go_wp2
    go_ret
    exact ⟨rfl, Below.refl _ _⟩
set_option maxRecDepth 100000 in
theorem PartsR1_any (h : PathE 9 w bp bs vp vs B C P S) (hi : i < P.length) (hl : P.length ≤ 1000) :
    Calls Tryd.prog 65 #[.int .i64 i, .pointer (some ⟨bp, 0, none⟩)] w fun e w' => e = .returned (.bool (starS P i)) ∧ Below w.heap.size w w' := by
  have c0 := h.pat
  have ho := h.ownp
  unfold starS
  rcases ho.form with ⟨_, e0⟩ | ⟨g, cap, rfl, _, _, hcap, hcm⟩
  · subst e0; exact absurd hi (by simp)
  · have c1 := ho.cell hi
    clear h ho
    unfold maxLen at hcm
    generalize piece P i = p at *
    go_enter Tryd.func65, Tryd.ntmps65
    go_wp2
    go_ret
    exact ⟨rfl, Below.refl _ _⟩
set_option maxRecDepth 100000 in
theorem Parts2_any (hk : PartsOk P S) (h : PathE 9 w bp bs vp vs B C P S) (hi : i < P.length) (hj : k < S.length) :
    Calls Tryd.prog 108 #[.int .i64 i, .int .i64 k, .pointer (some ⟨bp, 0, none⟩), .pointer (some ⟨bs, 0, none⟩)] w fun e w' => e = .returned (.bool (fitsS P S i k)) ∧ Below w.heap.size w w' := by
  have c0 := h.pat
  have c2 := h.txt
  have ho := h.ownp
  have hq := h.owns
  unfold fitsS
  have HC := Lib.hid (fun w => GlobPart_any (piece P i) (piece S k) w (hk.ok i hi).1 (hk.ok i hi).2.1 (hk.ok i hi).2.2 (hk.size k hj))
  have n1 := hk.np
  have n2 := hk.ns
  rcases ho.form with ⟨_, e0⟩ | ⟨g, cap, rfl, _, _, hcap, hcm⟩
  · subst e0; exact absurd hi (by simp)
  · rcases hq.form with ⟨_, e0⟩ | ⟨g', cap', rfl, _, _, hcap', hcm'⟩
    · subst e0; exact absurd hj (by simp)
    · have c1 := ho.cell hi
      have c3 := hq.cell hj
      clear h ho hq hk
      unfold maxLen at hcm hcm'
      generalize piece P i = p at *
      generalize piece S k = s at *
      go_enter Tryd.func108, Tryd.ntmps108
      go_wp2
      go_still_tail 8, (by kernel_rfl)
      go_wp2_with fail
      refine (HC.out _).mono ?_
      rintro e w2 ⟨rfl, hb⟩
      have HB2 := Lib.hid ((Below.refl w.heap.size w).drew.trans hb)
      clear hb
      go_wp2
      go_ret
      exact ⟨rfl, HB2.out⟩
set_option maxRecDepth 100000 in
theorem PartsR2_any (hk : PartsOk P S) (h : PathE 9 w bp bs vp vs B C P S) (hi : i < P.length) (hj : k < S.length) :
    Calls Tryd.prog 66 #[.int .i64 i, .int .i64 k, .pointer (some ⟨bp, 0, none⟩), .pointer (some ⟨bs, 0, none⟩)] w fun e w' => e = .returned (.bool (fitsS P S i k)) ∧ Below w.heap.size w w' := by
  have c0 := h.pat
  have c2 := h.txt
  have ho := h.ownp
  have hq := h.owns
  unfold fitsS
  have HC := Lib.hid (fun w => PartFits_any (piece P i) (piece S k) w (hk.ok i hi).1 (hk.ok i hi).2.1 (hk.ok i hi).2.2 (hk.size k hj))
  have n1 := hk.np
  have n2 := hk.ns
  rcases ho.form with ⟨_, e0⟩ | ⟨g, cap, rfl, _, _, hcap, hcm⟩
  · subst e0; exact absurd hi (by simp)
  · rcases hq.form with ⟨_, e0⟩ | ⟨g', cap', rfl, _, _, hcap', hcm'⟩
    · subst e0; exact absurd hj (by simp)
    · have c1 := ho.cell hi
      have c3 := hq.cell hj
      clear h ho hq hk
      unfold maxLen at hcm hcm'
      generalize piece P i = p at *
      generalize piece S k = s at *
      go_enter Tryd.func66, Tryd.ntmps66
      go_wp2
      go_still_tail 8, (by kernel_rfl)
      go_wp2_with fail
      refine (HC.out _).mono ?_
      rintro e w2 ⟨rfl, hb⟩
      have HB2 := Lib.hid ((Below.refl w.heap.size w).drew.trans hb)
      clear hb
      go_wp2
      go_ret
      exact ⟨rfl, HB2.out⟩
end
set_option maxRecDepth 100000 in
theorem GlobParts_any (B C : Nat) (vp vs : Value) (P S : List ByteArray) (w : World) (hk : PartsOk P S) (hp : OwnSs 9 w B vp P) (hs : OwnSs 9 w C vs S) :
    Calls Tryd.prog 59 #[vp, vs] w fun e w' => e = .returned (.bool (wildM P.length S.length (starS P) (fitsS P S) 0 0)) ∧ Below w.heap.size w w' := by
  have n1 := hk.np
  have n2 := hk.ns
  have HW := Lib.hid (fun (bp bs : Nat) (w : World) (h : PathE 9 w bp bs vp vs B C P S) =>
    Wild_any P.length S.length 107 108 ⟨bp, 0, none⟩ ⟨bs, 0, none⟩ (starS P) (fitsS P S) w n1 n2
      (enter_of Tryd.func107 (by kernel_rfl) (by kernel_rfl)) (enter_of Tryd.func108 (by kernel_rfl) (by kernel_rfl))
      (fun w' i hb hi => Parts1_any bp bs B C i vp vs P S w' (h.below hb) hi n1)
      (fun w' i k hb hi hj => Parts2_any bp bs B C i k vp vs P S w' hk (h.below hb) hi hj))
  have HB2 := Lib.hid (((Below.refl w.heap.size w).alloc (Nat.le_refl _) (.cells #[vp] 56)).alloc (by simp) (.cells #[vs] 56))
  have HE := Lib.hid (show PathE 9 ((w.alloc (.cells #[vp] 56)).alloc (.cells #[vs] 56)) w.heap.size (w.heap.size + 1) vp vs B C P S from ⟨by simp [World.cell?_alloc_new], hp.below HB2.out, by simp [World.cell?_alloc_new], hs.below HB2.out⟩)
  rcases hp.form with ⟨_, e0⟩ | ⟨g, cap, rfl, _, _, hcap, hcm⟩
  · have := hk.p0; rw [e0] at this; simp at this
  · rcases hs.form with ⟨_, e0⟩ | ⟨g', cap', rfl, _, _, hcap', hcm'⟩
    · have := hk.s0; rw [e0] at this; simp at this
    · clear hk hp hs
      go_enter Tryd.func59, Tryd.ntmps59
      go_wp2_with fail
      refine (HW.out _ _ _ HE.out).mono ?_
      rintro e w2 ⟨rfl, hb⟩
      have HB3 := Lib.hid (HB2.out.trans (hb.mono (by simp; omega)))
      clear hb
      go_wp2
      go_ret
      exact ⟨rfl, HB3.out⟩
set_option maxRecDepth 100000 in
set_option maxHeartbeats 1000000 in
theorem GlobFitsL_any (p s : ByteArray) (w : World) (hM : MaxOk w) (hp : p.size ≤ maxLen) (hs : s.size ≤ maxLen) :
    Calls Tryd.prog 19 #[.string p, .string s] w fun e w' => e = .returned (.tuple #[.bool (globFitsE p s).1, .int .i64 (globFitsE p s).2]) ∧ Below w.heap.size w w' := by
  have HM := Lib.hid hM
  have HC := Lib.hid (fun w hM => GlobCheck_any p w hM hp)
  have HC2 := Lib.hid (fun w hM => PathCheck_any s w hM hs)
  clear hM
  by_cases h0 : globFault p = 0
  · rw [h0] at HC
    by_cases h1 : pathFault s = 0
    · rw [h1] at HC2
      obtain ⟨a1, a2, _⟩ := globFault_inv h0
      obtain ⟨b1, b2⟩ := pathFault_inv h1
      have HF := Lib.hid (globFitsE_ok h0 h1)
      have HP := Lib.hid (fun w hM => Parts_any p w hM (by omega))
      have HS := Lib.hid (fun w hM => Parts_any s w hM (by omega))
      rw [pathParts_pos a1] at HP
      rw [pathParts_pos b1] at HS
      have HG := Lib.hid (fun B C vp vs w hp hs => GlobParts_any B C vp vs _ _ w (PartsOk.mk' h0 h1) hp hs)
      rw [globFits_eq] at HG
      generalize globFitsE p s = r at *
      clear h0 h1
      go_enter Tryd.func19, Tryd.ntmps19
      go_wp2_with fail
      refine (HC.out _ HM.out).mono ?_
      rintro e w1 ⟨rfl, hb⟩
      have HB1 := Lib.hid hb
      clear hb
      go_wp2_with fail
      refine (HC2.out _ (HM.out.below HB1.out)).mono ?_
      rintro e w2 ⟨rfl, hb⟩
      have HB2 := Lib.hid (HB1.out.trans (hb.mono HB1.out.size))
      clear hb
      go_wp2_with fail
      refine (HP.out _ (HM.out.below HB2.out)).mono ?_
      rintro e w3 ⟨v, rfl, ho, hb⟩
      have HB3 := Lib.hid (HB2.out.trans (hb.mono HB2.out.size))
      have HO := Lib.hid ho
      clear ho hb
      go_wp2_with fail
      refine (HS.out _ (HM.out.below HB3.out)).mono ?_
      rintro e w4 ⟨v4, rfl, ho, hb⟩
      have HB4 := Lib.hid (HB3.out.trans (hb.mono HB3.out.size))
      have HO4 := Lib.hid (HO.out.below hb)
      have HQ4 := Lib.hid ho
      clear ho hb
      go_wp2_with fail
      refine (HG.out _ _ _ _ _ HO4.out HQ4.out).mono ?_
      rintro e w5 ⟨rfl, hb⟩
      have HB5 := Lib.hid (HB4.out.trans (hb.mono HB4.out.size))
      clear hb
      go_wp2
      go_ret2
      exact ⟨ret_bi HF.out, HB5.out⟩
    · have HF := Lib.hid (globFitsE_path h0 h1)
      generalize globFitsE p s = r at *
      generalize pathFault s = c at *
      clear h0
      have hq : (c == 0) = false := by rw [beq_eq_false_iff_ne]; exact h1
      clear h1
      go_enter Tryd.func19, Tryd.ntmps19
      go_wp2_with fail
      refine (HC.out _ HM.out).mono ?_
      rintro e w1 ⟨rfl, hb⟩
      have HB1 := Lib.hid hb
      clear hb
      go_wp2_with fail
      refine (HC2.out _ (HM.out.below HB1.out)).mono ?_
      rintro e w2 ⟨rfl, hb⟩
      have HB2 := Lib.hid (HB1.out.trans (hb.mono HB1.out.size))
      clear hb
      go_wp2
      go_ret2
      exact ⟨ret_bi HF.out, HB2.out⟩
  · have HF := Lib.hid (globFitsE_bad (s := s) h0)
    generalize globFitsE p s = r at *
    generalize globFault p = c at *
    have hq : (c == 0) = false := by rw [beq_eq_false_iff_ne]; exact h0
    clear h0
    go_enter Tryd.func19, Tryd.ntmps19
    go_wp2_with fail
    refine (HC.out _ HM.out).mono ?_
    rintro e w1 ⟨rfl, hb⟩
    have HB1 := Lib.hid hb
    clear hb
    go_wp2
    go_ret2
    exact ⟨ret_bi HF.out, HB1.out⟩
set_option maxRecDepth 100000 in
set_option maxHeartbeats 1000000 in
theorem GlobFitsR_any (p s : ByteArray) (w : World) (hp : p.size ≤ maxLen) (hs : s.size ≤ maxLen) :
    Calls Tryd.prog 20 #[.string p, .string s] w fun e w' => e = .returned (.tuple #[.bool (globFitsE p s).1, .int .i64 (globFitsE p s).2]) ∧ Below w.heap.size w w' := by
  have HC := Lib.hid (fun w => GlobFault_any p w hp)
  have HC2 := Lib.hid (fun w => PathFault_any s w hs)
  by_cases h0 : globFault p = 0
  · rw [h0] at HC
    by_cases h1 : pathFault s = 0
    · rw [h1] at HC2
      obtain ⟨a1, a2, _⟩ := globFault_inv h0
      obtain ⟨b1, b2⟩ := pathFault_inv h1
      have HF := Lib.hid (globFitsE_ok h0 h1)
      have HP := Lib.hid (fun w => parts_any p 47 47 rfl w (by omega))
      have HS := Lib.hid (fun w => parts_any s 47 47 rfl w (by omega))
      have hk := PartsOk.mk' h0 h1
      have HT := Lib.hid (globFits_eqP p s)
      generalize partsS 47 p = P at *
      generalize partsS 47 s = S at *
      have n1 := hk.np
      have n2 := hk.ns
      have p0 := hk.p0
      have s0 := hk.s0
      have HG := Lib.hid (fun (B C : Nat) (vp vs : Value) (bp bs : Nat) (w : World) (h : PathE 9 w bp bs vp vs B C P S) =>
        Table_any P.length S.length 65 66 ⟨bp, 0, none⟩ ⟨bs, 0, none⟩ (starS P) (fitsS P S) w n1 n2
          (enter_of Tryd.func65 (by kernel_rfl) (by kernel_rfl)) (enter_of Tryd.func66 (by kernel_rfl) (by kernel_rfl))
          (fun w' i hb hi => PartsR1_any bp bs B C i vp vs P S w' (h.below hb) hi n1)
          (fun w' i k hb hi hj => PartsR2_any bp bs B C i k vp vs P S w' hk (h.below hb) hi hj))
      generalize globFitsE p s = r at *
      clear h0 h1 hk
      go_enter Tryd.func20, Tryd.ntmps20
      go_wp2_with fail
      refine (HC.out _).mono ?_
      rintro e w1 ⟨rfl, hb⟩
      have HB1 := Lib.hid hb
      clear hb
      go_wp2_with fail
      refine (HC2.out _).mono ?_
      rintro e w2 ⟨rfl, hb⟩
      have HB2 := Lib.hid (HB1.out.trans (hb.mono HB1.out.size))
      clear hb
      go_wp2_with fail
      refine (HP.out _).mono ?_
      rintro e w3 ⟨v, rfl, ho, hb⟩
      have HB3 := Lib.hid (HB2.out.trans (hb.mono HB2.out.size))
      rcases ho.form with ⟨_, e0⟩ | ⟨g, cap, rfl, _, _, hcap, hcm⟩
      · rw [e0] at p0; simp at p0
      · have HO := Lib.hid ho
        clear ho hb
        go_wp2_with fail
        refine (HS.out _).mono ?_
        rintro e w4 ⟨v4, rfl, ho, hb⟩
        rcases ho.form with ⟨_, e0⟩ | ⟨g', cap', rfl, _, _, hcap', hcm'⟩
        · rw [e0] at s0; simp at s0
        · have hz := hb.size
          have hb3 := Lib.hid (HB3.out.alloc HB3.out.size (.cells #[.slice (some ⟨g, 0, none⟩) P.length cap] 56))
          have HB4 := Lib.hid (hb3.out.trans (hb.mono (by have := HB3.out.size; simp; omega)))
          have hz3 : w3.heap.size < w4.heap.size := by simp at hz; omega
          have hc3 : w4.cell? ⟨w3.heap.size, 0, none⟩ = some (.slice (some ⟨g, 0, none⟩) P.length cap) := (hb.cell (p := ⟨w3.heap.size, 0, none⟩) (by simp)).trans (by simp)
          have HE := Lib.hid (show PathE 9 (w4.alloc (.cells #[.slice (some ⟨g', 0, none⟩) S.length cap'] 56)) w3.heap.size w4.heap.size _ _ _ _ P S from
            ⟨((Below.refl w4.heap.size w4).alloc (Nat.le_refl _) _).cell (p := ⟨w3.heap.size, 0, none⟩) hz3 |>.trans hc3, ((HO.out.below ((Below.refl _ _).alloc (Nat.le_refl _) _)).below hb).below ((Below.refl _ _).alloc (Nat.le_refl _) _), by simp, ho.below ((Below.refl _ _).alloc (Nat.le_refl _) _)⟩)
          clear ho hb hz hc3
          have hc3 := HE.out.pat
          go_wp2_with fail
          refine (HG.out _ _ _ _ _ _ _ HE.out).mono ?_
          rintro e w5 ⟨rfl, hb⟩
          have HB5 := Lib.hid ((HB4.out.alloc HB4.out.size _).trans (hb.mono (by have := HB4.out.size; simp; omega)))
          rw [HT.out]
          clear hb
          go_wp2
          go_ret2
          exact ⟨ret_bi HF.out, HB5.out⟩
    · have HF := Lib.hid (globFitsE_path h0 h1)
      generalize globFitsE p s = r at *
      generalize pathFault s = c at *
      clear h0
      have hq : (c == 0) = false := by rw [beq_eq_false_iff_ne]; exact h1
      clear h1
      go_enter Tryd.func20, Tryd.ntmps20
      go_wp2_with fail
      refine (HC.out _).mono ?_
      rintro e w1 ⟨rfl, hb⟩
      have HB1 := Lib.hid hb
      clear hb
      go_wp2_with fail
      refine (HC2.out _).mono ?_
      rintro e w2 ⟨rfl, hb⟩
      have HB2 := Lib.hid (HB1.out.trans (hb.mono HB1.out.size))
      clear hb
      go_wp2
      go_ret2
      exact ⟨ret_bi HF.out, HB2.out⟩
  · have HF := Lib.hid (globFitsE_bad (s := s) h0)
    generalize globFitsE p s = r at *
    generalize globFault p = c at *
    have hq : (c == 0) = false := by rw [beq_eq_false_iff_ne]; exact h0
    clear h0
    go_enter Tryd.func20, Tryd.ntmps20
    go_wp2_with fail
    refine (HC.out _).mono ?_
    rintro e w1 ⟨rfl, hb⟩
    have HB1 := Lib.hid hb
    clear hb
    go_wp2
    go_ret2
    exact ⟨ret_bi HF.out, HB1.out⟩
end Go.Proofs.YtecmcgedeaemgaaDoor
