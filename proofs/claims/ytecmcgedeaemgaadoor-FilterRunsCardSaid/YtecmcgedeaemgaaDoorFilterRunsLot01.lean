/-
  Texts of this proof, one behind the other: GlobPaths, Takes, KeptSpec, FilterRun, Filtered, FilterRunA, MaxOk, Laid, FilterRunsW.
-/
import Derived.Test.YtecmcgedeaemgaaDoorGlobPart
import Derived.Test.YtecmcgedeaemgaaDoorGlobPartR
import Derived.Test.YtecmcgedeaemgaaDoorGlobFault
import Derived.Test.YtecmcgedeaemgaaDoorPathFault
import Derived.Test.YtecmcgedeaemgaaDoorRules
import Derived.Test.YtecmcgedeaemgaaDoorFindN
import Derived.Test.YtecmcgedeaemgaaDoorPieces
import Derived.Shaped
import Derived.Test.YtecmcgedeaemgaaDoorRows
import Derived.Deep.DeepHandedRow
import Derived.Lib.LaidTab
/-
  glob.Fits and its reference, walked.
-/
namespace Go.Creel
set_option linter.unusedVariables false
set_option linter.unusedSimpArgs false
open Go.RowKit
/-- what the closures read: the parts of the pattern, and those of the path -/
structure PathE (t : TypeId) (w : World) (bp bs : Nat) (vp vs : Value) (B C : Nat) (P S : List ByteArray) : Prop where
  pat : w.cell? ⟨bp, 0, none⟩ = some vp
  ownp : OwnSs t w B vp P
  txt : w.cell? ⟨bs, 0, none⟩ = some vs
  owns : OwnSs t w C vs S
theorem PathE.below {t : TypeId} {w w' : World} {bp bs B C : Nat} {vp vs : Value} {P S : List ByteArray} (h : PathE t w bp bs vp vs B C P S) (hb : Below w.heap.size w w') : PathE t w' bp bs vp vs B C P S :=
  ⟨(hb.cell (p := ⟨bp, 0, none⟩) (World.block_lt_of_cell? w _ h.pat)).trans h.pat, h.ownp.below hb, (hb.cell (p := ⟨bs, 0, none⟩) (World.block_lt_of_cell? w _ h.txt)).trans h.txt, h.owns.below hb⟩
def starS (P : List ByteArray) (i : Nat) : Bool := (piece P i).toList == [42, 42]
def fitsS (P S : List ByteArray) (i k : Nat) : Bool := partFits (piece P i) (piece S k)
/-- parts that are right -/
structure PartsOk (P S : List ByteArray) : Prop where
  np : P.length ≤ 1000
  ns : S.length ≤ 1000
  p0 : 0 < P.length
  s0 : 0 < S.length
  ok : ∀ i, i < P.length → okAt (piece P i) 0 = true ∧ 1 ≤ (piece P i).size ∧ (piece P i).size ≤ 400
  size : ∀ k, k < S.length → (piece S k).size ≤ 400
theorem PartsOk.mk' {p s : ByteArray} (h : globFault p = 0) (h2 : pathFault s = 0) : PartsOk (partsS 47 p) (partsS 47 s) := by
  obtain ⟨a1, a2, a3⟩ := globFault_inv h
  obtain ⟨b1, b2⟩ := pathFault_inv h2
  have l1 := partsS_len 47 p
  have l2 := partsS_len 47 s
  exact ⟨by omega, by omega, partsS_pos _ _, partsS_pos _ _, fun i hi => ⟨(a3 i hi).1, (a3 i hi).2, piece_le (partsS_size a2) i⟩, fun k hk => piece_le (partsS_size b2) k⟩
theorem globFits_eq (p s : ByteArray) : wildM (partsS 47 p).length (partsS 47 s).length (starS (partsS 47 p)) (fitsS (partsS 47 p) (partsS 47 s)) 0 0 = globFits p s := rfl
theorem globFits_eqP (p s : ByteArray) : wildP (starS (partsS 47 p)) (fitsS (partsS 47 p) (partsS 47 s)) (partsS 47 p).length (partsS 47 s).length = globFits p s := (globFits_table p s).symm
theorem ret_bi {a : Bool} {b : Int} {p : Bool × Int} (h : p = (a, b)) : Ending.returned (.tuple #[.bool a, .int .i64 b]) = .returned (.tuple #[.bool p.1, .int .i64 p.2]) := by rw [h]
theorem pathParts_pos {s : ByteArray} (h : 1 ≤ s.size) : pathParts s = partsS 47 s := by unfold pathParts; rw [if_neg (by omega)]
end Go.Creel
namespace Go.Proofs.YtecmcgedeaemgaaDoor
set_option linter.unusedVariables false
set_option linter.unusedSimpArgs false
open Go.Creel Go.RowKit
section
variable (bp bs B C i k : Nat) (vp vs : Value) (P S : List ByteArray) (w : World)
set_option maxRecDepth 100000 in
theorem Parts1_any (h : PathE 9 w bp bs vp vs B C P S) (hi : i < P.length) (hl : P.length ≤ 1000) :
    Calls Tryd.prog 107 #[.int .i64 i, .pointer (some ⟨bp, 0, none⟩)] w fun e w' => e = .returned (.bool (starS P i)) ∧ Below w.heap.size w w' := by
  have c0 := h.pat
  have ho := h.ownp
  unfold starS
  rcases ho.form with ⟨_, e0⟩ | ⟨g, cap, rfl, _, _, hcap, hcm⟩
  · subst e0; exact absurd hi (by simp)
  · have c1 := ho.cell hi
    clear h ho
    unfold maxLen at hcm
    generalize piece P i = p at *
    go_enter Tryd.func107, Tryd.ntmps107
    go_wp2
    go_ret
    exact ⟨rfl, Below.refl _ _⟩
set_option maxRecDepth 100000 in
theorem PartsR1_any (h : PathE 9 w bp bs vp vs B C P S) (hi : i < P.length) (hl : P.length ≤ 1000) :
    Calls Tryd.prog 65 #[.int .i64 i, .pointer (some ⟨bp, 0, none⟩)] w fun e w' => e = .returned (.bool (starS P i)) ∧ Below w.heap.size w w' := by
  have c0 := h.pat
  have ho := h.ownp
  unfold starS
  rcases ho.form with ⟨_, e0⟩ | ⟨g, cap, rfl, _, _, hcap, hcm⟩
  · subst e0; exact absurd hi (by simp)
  · have c1 := ho.cell hi
    clear h ho
    unfold maxLen at hcm
    generalize piece P i = p at *
    go_enter Tryd.func65, Tryd.ntmps65
    go_wp2
    go_ret
    exact ⟨rfl, Below.refl _ _⟩
set_option maxRecDepth 100000 in
theorem Parts2_any (hk : PartsOk P S) (h : PathE 9 w bp bs vp vs B C P S) (hi : i < P.length) (hj : k < S.length) :
    Calls Tryd.prog 108 #[.int .i64 i, .int .i64 k, .pointer (some ⟨bp, 0, none⟩), .pointer (some ⟨bs, 0, none⟩)] w fun e w' => e = .returned (.bool (fitsS P S i k)) ∧ Below w.heap.size w w' := by
  have c0 := h.pat
  have c2 := h.txt
  have ho := h.ownp
  have hq := h.owns
  unfold fitsS
  have HC := Lib.hid (fun w => GlobPart_any (piece P i) (piece S k) w (hk.ok i hi).1 (hk.ok i hi).2.1 (hk.ok i hi).2.2 (hk.size k hj))
  have n1 := hk.np
  have n2 := hk.ns
  rcases ho.form with ⟨_, e0⟩ | ⟨g, cap, rfl, _, _, hcap, hcm⟩
  · subst e0; exact absurd hi (by simp)
  · rcases hq.form with ⟨_, e0⟩ | ⟨g', cap', rfl, _, _, hcap', hcm'⟩
    · subst e0; exact absurd hj (by simp)
    · have c1 := ho.cell hi
      have c3 := hq.cell hj
      clear h ho hq hk
      unfold maxLen at hcm hcm'
      generalize piece P i = p at *
      generalize piece S k = s at *
      go_enter Tryd.func108, Tryd.ntmps108
      go_wp2
      go_still_tail 8, (by kernel_rfl)
      go_wp2_with fail
      refine (HC.out _).mono ?_
      rintro e w2 ⟨rfl, hb⟩
      have HB2 := Lib.hid ((Below.refl w.heap.size w).drew.trans hb)
      clear hb
      go_wp2
      go_ret
      exact ⟨rfl, HB2.out⟩
set_option maxRecDepth 100000 in
theorem PartsR2_any (hk : PartsOk P S) (h : PathE 9 w bp bs vp vs B C P S) (hi : i < P.length) (hj : k < S.length) :
    Calls Tryd.prog 66 #[.int .i64 i, .int .i64 k, .pointer (some ⟨bp, 0, none⟩), .pointer (some ⟨bs, 0, none⟩)] w fun e w' => e = .returned (.bool (fitsS P S i k)) ∧ Below w.heap.size w w' := by
  have c0 := h.pat
  have c2 := h.txt
  have ho := h.ownp
  have hq := h.owns
  unfold fitsS
  have HC := Lib.hid (fun w => PartFits_any (piece P i) (piece S k) w (hk.ok i hi).1 (hk.ok i hi).2.1 (hk.ok i hi).2.2 (hk.size k hj))
  have n1 := hk.np
  have n2 := hk.ns
  rcases ho.form with ⟨_, e0⟩ | ⟨g, cap, rfl, _, _, hcap, hcm⟩
  · subst e0; exact absurd hi (by simp)
  · rcases hq.form with ⟨_, e0⟩ | ⟨g', cap', rfl, _, _, hcap', hcm'⟩
    · subst e0; exact absurd hj (by simp)
    · have c1 := ho.cell hi
      have c3 := hq.cell hj
      clear h ho hq hk
      unfold maxLen at hcm hcm'
      generalize piece P i = p at *
      generalize piece S k = s at *
      go_enter Tryd.func66, Tryd.ntmps66
      go_wp2
      go_still_tail 8, (by kernel_rfl)
      go_wp2_with fail
      refine (HC.out _).mono ?_
      rintro e w2 ⟨rfl, hb⟩
      have HB2 := Lib.hid ((Below.refl w.heap.size w).drew.trans hb)
      clear hb
      go_wp2
      go_ret
      exact ⟨rfl, HB2.out⟩
end
set_option maxRecDepth 100000 in
theorem GlobParts_any (B C : Nat) (vp vs : Value) (P S : List ByteArray) (w : World) (hk : PartsOk P S) (hp : OwnSs 9 w B vp P) (hs : OwnSs 9 w C vs S) :
    Calls Tryd.prog 59 #[vp, vs] w fun e w' => e = .returned (.bool (wildM P.length S.length (starS P) (fitsS P S) 0 0)) ∧ Below w.heap.size w w' := by
  have n1 := hk.np
  have n2 := hk.ns
  have HW := Lib.hid (fun (bp bs : Nat) (w : World) (h : PathE 9 w bp bs vp vs B C P S) =>
    Wild_any P.length S.length 107 108 ⟨bp, 0, none⟩ ⟨bs, 0, none⟩ (starS P) (fitsS P S) w n1 n2
      (enter_of Tryd.func107 (by kernel_rfl) (by kernel_rfl)) (enter_of Tryd.func108 (by kernel_rfl) (by kernel_rfl))
      (fun w' i hb hi => Parts1_any bp bs B C i vp vs P S w' (h.below hb) hi n1)
      (fun w' i k hb hi hj => Parts2_any bp bs B C i k vp vs P S w' hk (h.below hb) hi hj))
  have HB2 := Lib.hid (((Below.refl w.heap.size w).alloc (Nat.le_refl _) (.cells #[vp] 56)).alloc (by simp) (.cells #[vs] 56))
  have HE := Lib.hid (show PathE 9 ((w.alloc (.cells #[vp] 56)).alloc (.cells #[vs] 56)) w.heap.size (w.heap.size + 1) vp vs B C P S from ⟨by simp [World.cell?_alloc_new], hp.below HB2.out, by simp [World.cell?_alloc_new], hs.below HB2.out⟩)
  rcases hp.form with ⟨_, e0⟩ | ⟨g, cap, rfl, _, _, hcap, hcm⟩
  · have := hk.p0; rw [e0] at this; simp at this
  · rcases hs.form with ⟨_, e0⟩ | ⟨g', cap', rfl, _, _, hcap', hcm'⟩
    · have := hk.s0; rw [e0] at this; simp at this
    · clear hk hp hs
      go_enter Tryd.func59, Tryd.ntmps59
      go_wp2_with fail
      refine (HW.out _ _ _ HE.out).mono ?_
      rintro e w2 ⟨rfl, hb⟩
      have HB3 := Lib.hid (HB2.out.trans (hb.mono (by simp; omega)))
      clear hb
      go_wp2
      go_ret
      exact ⟨rfl, HB3.out⟩
set_option maxRecDepth 100000 in
set_option maxHeartbeats 1000000 in
theorem GlobFitsL_any (p s : ByteArray) (w : World) (hM : MaxOk w) (hp : p.size ≤ maxLen) (hs : s.size ≤ maxLen) :
    Calls Tryd.prog 19 #[.string p, .string s] w fun e w' => e = .returned (.tuple #[.bool (globFitsE p s).1, .int .i64 (globFitsE p s).2]) ∧ Below w.heap.size w w' := by
  have HM := Lib.hid hM
  have HC := Lib.hid (fun w hM => GlobCheck_any p w hM hp)
  have HC2 := Lib.hid (fun w hM => PathCheck_any s w hM hs)
  clear hM
  by_cases h0 : globFault p = 0
  · rw [h0] at HC
    by_cases h1 : pathFault s = 0
    · rw [h1] at HC2
      obtain ⟨a1, a2, _⟩ := globFault_inv h0
      obtain ⟨b1, b2⟩ := pathFault_inv h1
      have HF := Lib.hid (globFitsE_ok h0 h1)
      have HP := Lib.hid (fun w hM => Parts_any p w hM (by omega))
      have HS := Lib.hid (fun w hM => Parts_any s w hM (by omega))
      rw [pathParts_pos a1] at HP
      rw [pathParts_pos b1] at HS
      have HG := Lib.hid (fun B C vp vs w hp hs => GlobParts_any B C vp vs _ _ w (PartsOk.mk' h0 h1) hp hs)
      rw [globFits_eq] at HG
      generalize globFitsE p s = r at *
      clear h0 h1
      go_enter Tryd.func19, Tryd.ntmps19
      go_wp2_with fail
      refine (HC.out _ HM.out).mono ?_
      rintro e w1 ⟨rfl, hb⟩
      have HB1 := Lib.hid hb
      clear hb
      go_wp2_with fail
      refine (HC2.out _ (HM.out.below HB1.out)).mono ?_
      rintro e w2 ⟨rfl, hb⟩
      have HB2 := Lib.hid (HB1.out.trans (hb.mono HB1.out.size))
      clear hb
      go_wp2_with fail
      refine (HP.out _ (HM.out.below HB2.out)).mono ?_
      rintro e w3 ⟨v, rfl, ho, hb⟩
      have HB3 := Lib.hid (HB2.out.trans (hb.mono HB2.out.size))
      have HO := Lib.hid ho
      clear ho hb
      go_wp2_with fail
      refine (HS.out _ (HM.out.below HB3.out)).mono ?_
      rintro e w4 ⟨v4, rfl, ho, hb⟩
      have HB4 := Lib.hid (HB3.out.trans (hb.mono HB3.out.size))
      have HO4 := Lib.hid (HO.out.below hb)
      have HQ4 := Lib.hid ho
      clear ho hb
      go_wp2_with fail
      refine (HG.out _ _ _ _ _ HO4.out HQ4.out).mono ?_
      rintro e w5 ⟨rfl, hb⟩
      have HB5 := Lib.hid (HB4.out.trans (hb.mono HB4.out.size))
      clear hb
      go_wp2
      go_ret2
      exact ⟨ret_bi HF.out, HB5.out⟩
    · have HF := Lib.hid (globFitsE_path h0 h1)
      generalize globFitsE p s = r at *
      generalize pathFault s = c at *
      clear h0
      have hq : (c == 0) = false := by rw [beq_eq_false_iff_ne]; exact h1
      clear h1
      go_enter Tryd.func19, Tryd.ntmps19
      go_wp2_with fail
      refine (HC.out _ HM.out).mono ?_
      rintro e w1 ⟨rfl, hb⟩
      have HB1 := Lib.hid hb
      clear hb
      go_wp2_with fail
      refine (HC2.out _ (HM.out.below HB1.out)).mono ?_
      rintro e w2 ⟨rfl, hb⟩
      have HB2 := Lib.hid (HB1.out.trans (hb.mono HB1.out.size))
      clear hb
      go_wp2
      go_ret2
      exact ⟨ret_bi HF.out, HB2.out⟩
  · have HF := Lib.hid (globFitsE_bad (s := s) h0)
    generalize globFitsE p s = r at *
    generalize globFault p = c at *
    have hq : (c == 0) = false := by rw [beq_eq_false_iff_ne]; exact h0
    clear h0
    go_enter Tryd.func19, Tryd.ntmps19
    go_wp2_with fail
    refine (HC.out _ HM.out).mono ?_
    rintro e w1 ⟨rfl, hb⟩
    have HB1 := Lib.hid hb
    clear hb
    go_wp2
    go_ret2
    exact ⟨ret_bi HF.out, HB1.out⟩
set_option maxRecDepth 100000 in
set_option maxHeartbeats 1000000 in
theorem GlobFitsR_any (p s : ByteArray) (w : World) (hp : p.size ≤ maxLen) (hs : s.size ≤ maxLen) :
    Calls Tryd.prog 20 #[.string p, .string s] w fun e w' => e = .returned (.tuple #[.bool (globFitsE p s).1, .int .i64 (globFitsE p s).2]) ∧ Below w.heap.size w w' := by
  have HC := Lib.hid (fun w => GlobFault_any p w hp)
  have HC2 := Lib.hid (fun w => PathFault_any s w hs)
  by_cases h0 : globFault p = 0
  · rw [h0] at HC
    by_cases h1 : pathFault s = 0
    · rw [h1] at HC2
      obtain ⟨a1, a2, _⟩ := globFault_inv h0
      obtain ⟨b1, b2⟩ := pathFault_inv h1
      have HF := Lib.hid (globFitsE_ok h0 h1)
      have HP := Lib.hid (fun w => parts_any p 47 47 rfl w (by omega))
      have HS := Lib.hid (fun w => parts_any s 47 47 rfl w (by omega))
      have hk := PartsOk.mk' h0 h1
      have HT := Lib.hid (globFits_eqP p s)
      generalize partsS 47 p = P at *
      generalize partsS 47 s = S at *
      have n1 := hk.np
      have n2 := hk.ns
      have p0 := hk.p0
      have s0 := hk.s0
      have HG := Lib.hid (fun (B C : Nat) (vp vs : Value) (bp bs : Nat) (w : World) (h : PathE 9 w bp bs vp vs B C P S) =>
        Table_any P.length S.length 65 66 ⟨bp, 0, none⟩ ⟨bs, 0, none⟩ (starS P) (fitsS P S) w n1 n2
          (enter_of Tryd.func65 (by kernel_rfl) (by kernel_rfl)) (enter_of Tryd.func66 (by kernel_rfl) (by kernel_rfl))
          (fun w' i hb hi => PartsR1_any bp bs B C i vp vs P S w' (h.below hb) hi n1)
          (fun w' i k hb hi hj => PartsR2_any bp bs B C i k vp vs P S w' hk (h.below hb) hi hj))
      generalize globFitsE p s = r at *
      clear h0 h1 hk
      go_enter Tryd.func20, Tryd.ntmps20
      go_wp2_with fail
      refine (HC.out _).mono ?_
      rintro e w1 ⟨rfl, hb⟩
      have HB1 := Lib.hid hb
      clear hb
      go_wp2_with fail
      refine (HC2.out _).mono ?_
      rintro e w2 ⟨rfl, hb⟩
      have HB2 := Lib.hid (HB1.out.trans (hb.mono HB1.out.size))
      clear hb
      go_wp2_with fail
      refine (HP.out _).mono ?_
      rintro e w3 ⟨v, rfl, ho, hb⟩
      have HB3 := Lib.hid (HB2.out.trans (hb.mono HB2.out.size))
      rcases ho.form with ⟨_, e0⟩ | ⟨g, cap, rfl, _, _, hcap, hcm⟩
      · rw [e0] at p0; simp at p0
      · have HO := Lib.hid ho
        clear ho hb
        go_wp2_with fail
        refine (HS.out _).mono ?_
        rintro e w4 ⟨v4, rfl, ho, hb⟩
        rcases ho.form with ⟨_, e0⟩ | ⟨g', cap', rfl, _, _, hcap', hcm'⟩
        · rw [e0] at s0; simp at s0
        · have hz := hb.size
          have hb3 := Lib.hid (HB3.out.alloc HB3.out.size (.cells #[.slice (some ⟨g, 0, none⟩) P.length cap] 56))
          have HB4 := Lib.hid (hb3.out.trans (hb.mono (by have := HB3.out.size; simp; omega)))
          have hz3 : w3.heap.size < w4.heap.size := by simp at hz; omega
          have hc3 : w4.cell? ⟨w3.heap.size, 0, none⟩ = some (.slice (some ⟨g, 0, none⟩) P.length cap) := (hb.cell (p := ⟨w3.heap.size, 0, none⟩) (by simp)).trans (by simp)
          have HE := Lib.hid (show PathE 9 (w4.alloc (.cells #[.slice (some ⟨g', 0, none⟩) S.length cap'] 56)) w3.heap.size w4.heap.size _ _ _ _ P S from
            ⟨((Below.refl w4.heap.size w4).alloc (Nat.le_refl _) _).cell (p := ⟨w3.heap.size, 0, none⟩) hz3 |>.trans hc3, ((HO.out.below ((Below.refl _ _).alloc (Nat.le_refl _) _)).below hb).below ((Below.refl _ _).alloc (Nat.le_refl _) _), by simp, ho.below ((Below.refl _ _).alloc (Nat.le_refl _) _)⟩)
          clear ho hb hz hc3
          have hc3 := HE.out.pat
          go_wp2_with fail
          refine (HG.out _ _ _ _ _ _ _ HE.out).mono ?_
          rintro e w5 ⟨rfl, hb⟩
          have HB5 := Lib.hid ((HB4.out.alloc HB4.out.size _).trans (hb.mono (by have := HB4.out.size; simp; omega)))
          rw [HT.out]
          clear hb
          go_wp2
          go_ret2
          exact ⟨ret_bi HF.out, HB5.out⟩
    · have HF := Lib.hid (globFitsE_path h0 h1)
      generalize globFitsE p s = r at *
      generalize pathFault s = c at *
      clear h0
      have hq : (c == 0) = false := by rw [beq_eq_false_iff_ne]; exact h1
      clear h1
      go_enter Tryd.func20, Tryd.ntmps20
      go_wp2_with fail
      refine (HC.out _).mono ?_
      rintro e w1 ⟨rfl, hb⟩
      have HB1 := Lib.hid hb
      clear hb
      go_wp2_with fail
      refine (HC2.out _).mono ?_
      rintro e w2 ⟨rfl, hb⟩
      have HB2 := Lib.hid (HB1.out.trans (hb.mono HB1.out.size))
      clear hb
      go_wp2
      go_ret2
      exact ⟨ret_bi HF.out, HB2.out⟩
  · have HF := Lib.hid (globFitsE_bad (s := s) h0)
    generalize globFitsE p s = r at *
    generalize globFault p = c at *
    have hq : (c == 0) = false := by rw [beq_eq_false_iff_ne]; exact h0
    clear h0
    go_enter Tryd.func20, Tryd.ntmps20
    go_wp2_with fail
    refine (HC.out _).mono ?_
    rintro e w1 ⟨rfl, hb⟩
    have HB1 := Lib.hid hb
    clear hb
    go_wp2
    go_ret2
    exact ⟨ret_bi HF.out, HB1.out⟩
end Go.Proofs.YtecmcgedeaemgaaDoor
/-
  What rules take: filter.takes, filter.Takes and their references, walked.
-/
namespace Go.Creel
set_option linter.unusedVariables false
set_option linter.unusedSimpArgs false
open Go.RowKit
/-- what the first k rules say -/
def takenTo (l : List Rul) (s : ByteArray) : Nat → Bool
  | 0 => true
  | k + 1 => if (globFitsE (rk l k).pat s).1 = true then (rk l k).take else takenTo l s k
def takenR (l : List Rul) (s : ByteArray) : Bool := takenTo l s l.length
theorem takenTo_yes {l : List Rul} {s : ByteArray} {k : Nat} (h : (globFitsE (rk l k).pat s).1 = true) : takenTo l s (k + 1) = (rk l k).take := by rw [takenTo, if_pos h]
theorem takenTo_no {l : List Rul} {s : ByteArray} {k : Nat} (h : (globFitsE (rk l k).pat s).1 = false) : takenTo l s (k + 1) = takenTo l s k := by rw [takenTo, if_neg (by rw [h]; simp)]
def takesE (l : List Rul) (s : ByteArray) : Bool × Int := if ¬ rulesFault l = 0 then (false, rulesFault l) else if ¬ pathFault s = 0 then (false, pathFault s) else (takenR l s, 0)
theorem takesE_bad {l : List Rul} {s : ByteArray} (h : ¬ rulesFault l = 0) : takesE l s = (false, rulesFault l) := by unfold takesE; rw [if_pos h]
theorem takesE_path {l : List Rul} {s : ByteArray} (h : rulesFault l = 0) (h2 : ¬ pathFault s = 0) : takesE l s = (false, pathFault s) := by unfold takesE; rw [if_neg (by simpa using h), if_pos h2]
theorem takesE_ok {l : List Rul} {s : ByteArray} (h : rulesFault l = 0) (h2 : pathFault s = 0) : takesE l s = (takenR l s, 0) := by unfold takesE; rw [if_neg (by simpa using h), if_neg (by simpa using h2)]
end Go.Creel
namespace Go.Proofs.YtecmcgedeaemgaaDoor
set_option linter.unusedVariables false
set_option linter.unusedSimpArgs false
open Go.Creel Go.RowKit
set_option maxRecDepth 100000 in
set_option maxHeartbeats 1000000 in
theorem TakesL_at (b off cap : Nat) (l : List Rul) (s : ByteArray) (w : World) (hM : MaxOk w) (hs : s.size ≤ maxLen) (hpos : 0 < l.length) (hle : l.length ≤ cap) (hm : cap ≤ maxLen) (hc : RulsAt w b off l) (ho : ∀ i, i < l.length → (rk l i).pat.size ≤ maxLen) :
    Calls Tryd.prog 68 #[.slice (some ⟨b, off, none⟩) l.length cap, .string s] w fun e w' => e = .returned (.bool (takenR l s)) ∧ Below w.heap.size w w' := by
  unfold maxLen at hm
  have HC := Lib.hid hc
  have HO := Lib.hid ho
  have HM := Lib.hid hM
  have HSS := Lib.hid hs
  clear hc ho hM hs
  go_enter Tryd.func68, Tryd.ntmps68
  go_wp2
  go_loopw [5, 6, 7] (fun v5 _ _ wr => ∃ k : Nat, k ≤ l.length ∧ v5 = .int .i64 ((k : Int) - 1) ∧ Hid (takenR l s = takenTo l s k) ∧ Hid (Below w.heap.size w wr)) (fun v5 _ _ _ => ((intOf v5) + 1).toNat)
  case atStart => exact ⟨l.length, by omega, rfl, Lib.hid rfl, Lib.hid (Below.refl _ _)⟩
  case round =>
    obtain ⟨k, hk, rfl, HD, HB⟩ := hrel
    cases k with
    | zero =>
      have HF := Lib.hid (HD.out.trans (by rw [takenTo]))
      rw [show ((0 : Nat) : Int) - 1 = -1 by rfl]
      go_wp2
      go_ret
      exact ⟨ret_b HF.out, HB.out⟩
    | succ j =>
      rw [show (((j + 1 : Nat)) : Int) - 1 = (j : Int) by omega]
      have hjl : j < l.length := by omega
      obtain ⟨h0, h1⟩ := (HC.out.below HB.out) j hjl
      have HG := Lib.hid (fun w hM => GlobFitsL_any (rk l j).pat s w hM (HO.out j hjl) HSS.out)
      have HYES := Lib.hid (fun h => HD.out.trans (takenTo_yes (l := l) (s := s) (k := j) h))
      have HNO := Lib.hid (fun h => HD.out.trans (takenTo_no (l := l) (s := s) (k := j) h))
      have HRAT := Lib.hid (fun w' hb => RulAt.below (w := wr) (w' := w') (b := b) (o := off + j * 2) (x := rk l j) ⟨h0, h1⟩ hb)
      generalize rk l j = x at *
      generalize globFitsE x.pat s = r at *
      obtain ⟨r1, r2⟩ := r
      clear HD
      go_wp2_with fail
      refine (HG.out _ (HM.out.below HB.out)).mono ?_
      rintro e w2 ⟨rfl, hb⟩
      have HB2 := Lib.hid (HB.out.trans (hb.mono HB.out.size))
      obtain ⟨g0, g1⟩ := HRAT.out _ hb
      clear hb
      cases r1 with
      | true =>
        have HF := Lib.hid (HYES.out rfl)
        go_wp2
        go_ret
        exact ⟨ret_b HF.out, HB2.out⟩
      | false =>
        have HN := Lib.hid (HNO.out rfl)
        go_wp2
        go_roundw
        case rel => exact ⟨j, by omega, rfl, HN, HB2⟩
        case measure => simp [intOf]
set_option maxRecDepth 100000 in
theorem TakesL_nil (a : Option Addr) (cap : Nat) (s : ByteArray) (w : World) :
    Calls Tryd.prog 68 #[.slice a 0 cap, .string s] w fun e w' => e = .returned (.bool true) ∧ w = w' := by
  go_enter Tryd.func68, Tryd.ntmps68
  go_wp2
  go_loop [5, 6, 7] (fun i _ _ => i = .int .i64 (-1)) (fun i _ _ => 0)
  case atStart => rfl
  case round =>
    obtain rfl := hrel
    go_wp2
    go_ret
    exact ⟨rfl, rfl⟩
theorem TakesL_any (v : Value) (l : List Rul) (s : ByteArray) (w : World) (hM : MaxOk w) (hs : s.size ≤ maxLen) (h : SliceC maxLen 2 (RulC maxLen) w [v] l) :
    Calls Tryd.prog 68 #[v, .string s] w fun e w' => e = .returned (.bool (takenR l s)) ∧ Below w.heap.size w w' := by
  rcases ruls_cases h with ⟨a, cap, rfl, rfl, _⟩ | ⟨b, off, cap, rfl, h1, h2, h3, _, h4, h5⟩
  · exact (TakesL_nil a cap s w).mono fun e w' ⟨h1, h2⟩ => ⟨h1, by rw [← h2]; exact Below.refl _ _⟩
  · exact TakesL_at b off cap l s w hM hs h1 h2 h3 h4 h5
set_option maxRecDepth 100000 in
set_option maxHeartbeats 1000000 in
theorem TakenR_at (b off cap : Nat) (l : List Rul) (s : ByteArray) (w : World) (hs : s.size ≤ maxLen) (hpos : 0 < l.length) (hle : l.length ≤ cap) (hm : cap ≤ maxLen) (hc : RulsAt w b off l) (ho : ∀ i, i < l.length → (rk l i).pat.size ≤ maxLen) :
    Calls Tryd.prog 69 #[.slice (some ⟨b, off, none⟩) l.length cap, .string s] w fun e w' => e = .returned (.bool (takenR l s)) ∧ Below w.heap.size w w' := by
  unfold maxLen at hm
  have HC := Lib.hid hc
  have HO := Lib.hid ho
  have HSS := Lib.hid hs
  clear hc ho hs
  go_enter Tryd.func69, Tryd.ntmps69
  go_wp2
  go_loopw [5, 7, 8, 9, 12] (fun v5 _ _ _ i wr => ∃ (k : Nat) (q : Bool), k ≤ l.length ∧ i = .int .i64 k ∧ v5 = .bool q ∧ Hid (q = takenTo l s k) ∧ Hid (Below w.heap.size w wr)) (fun _ _ _ _ i _ => l.length - (intOf i).toNat)
  case atStart => exact ⟨0, true, by omega, rfl, rfl, Lib.hid rfl, Lib.hid (Below.refl _ _)⟩
  case round =>
    obtain ⟨k, q, hk, rfl, rfl, HD, HB⟩ := hrel
    by_cases hlt : k < l.length
    · obtain ⟨h0, h1⟩ := (HC.out.below HB.out) k hlt
      have HG := Lib.hid (fun w => GlobFitsR_any (rk l k).pat s w (HO.out k hlt) HSS.out)
      have HYES := Lib.hid (fun h => (takenTo_yes (l := l) (s := s) (k := k) h).symm)
      have HNO := Lib.hid (fun h => HD.out.trans (takenTo_no (l := l) (s := s) (k := k) h).symm)
      generalize rk l k = x at *
      generalize globFitsE x.pat s = r at *
      obtain ⟨r1, r2⟩ := r
      clear HD
      have HBB := Lib.hid (HB.out.alloc HB.out.size (.cells #[.bool x.take, .string x.pat] 81))
      go_wp2_with fail
      refine (HG.out _).mono ?_
      rintro e w2 ⟨rfl, hb⟩
      have HB2 := Lib.hid (HBB.out.trans (hb.mono HBB.out.size))
      have g0 : w2.cell? ⟨wr.heap.size, 0, none⟩ = some (.bool x.take) := (hb.cell (p := ⟨wr.heap.size, 0, none⟩) (by simp)).trans (by simp [World.cell?_alloc_new])
      clear hb
      cases r1 with
      | true =>
        have HF := Lib.hid (HYES.out rfl)
        go_wp2
        go_roundw
        case rel => exact ⟨k + 1, _, by omega, by go_num, rfl, HF, HB2⟩
        case measure => simp [intOf]; omega
      | false =>
        have HN := Lib.hid (HNO.out rfl)
        go_wp2
        go_roundw
        case rel => exact ⟨k + 1, _, by omega, by go_num, rfl, HN, HB2⟩
        case measure => simp [intOf]; omega
    · obtain rfl : k = l.length := by omega
      have HF := Lib.hid (show takenR l s = q from HD.out.symm)
      go_wp2
      go_ret
      exact ⟨ret_b HF.out, HB.out⟩
set_option maxRecDepth 100000 in
theorem TakenR_nil (a : Option Addr) (cap : Nat) (s : ByteArray) (w : World) :
    Calls Tryd.prog 69 #[.slice a 0 cap, .string s] w fun e w' => e = .returned (.bool true) ∧ w = w' := by
  go_enter Tryd.func69, Tryd.ntmps69
  go_wp2
  go_loop [5, 7, 8, 9, 12] (fun v5 _ _ _ i => i = .int .i64 0 ∧ v5 = .bool true) (fun _ _ _ _ i => 0)
  case atStart => exact ⟨rfl, rfl⟩
  case round =>
    obtain ⟨rfl, rfl⟩ := hrel
    go_wp2
    go_ret
    exact ⟨rfl, rfl⟩
theorem TakenR_any (v : Value) (l : List Rul) (s : ByteArray) (w : World) (hs : s.size ≤ maxLen) (h : SliceC maxLen 2 (RulC maxLen) w [v] l) :
    Calls Tryd.prog 69 #[v, .string s] w fun e w' => e = .returned (.bool (takenR l s)) ∧ Below w.heap.size w w' := by
  rcases ruls_cases h with ⟨a, cap, rfl, rfl, _⟩ | ⟨b, off, cap, rfl, h1, h2, h3, _, h4, h5⟩
  · exact (TakenR_nil a cap s w).mono fun e w' ⟨h1, h2⟩ => ⟨h1, by rw [← h2]; exact Below.refl _ _⟩
  · exact TakenR_at b off cap l s w hs h1 h2 h3 h4 h5
end Go.Proofs.YtecmcgedeaemgaaDoor
/-
  What rules take of a tree: plain words and laws.
-/
namespace Go.Creel
set_option linter.unusedVariables false
set_option linter.unusedSimpArgs false
open Go.RowKit
theorem treeFault_steps {l : List Nod} (h : treeFault l = 0) : ∀ k, k < l.length → stepF l k = 0 := by
  have hl := (treeFault_all h).1
  have key : ∀ k, k ≤ l.length → ∀ j, j < k → stepF l j = 0 := by
    intro k
    induction k with
    | zero => intro _ j hj; omega
    | succ k ih =>
      intro hk j hj
      by_cases e : j = k
      · subst e
        refine Classical.byContradiction fun hne => ?_
        exact hne ((treeFault_at hl (by omega) (ih (by omega)) rfl hne).symm.trans h)
      · exact ih (by omega) j (by omega)
  exact key _ (Nat.le_refl _)
theorem stepF_ups {l : List Nod} {i : Nat} (h : stepF l i = 0) : OrdOk l i ∧ UpOk l i := by
  have h0 := (stepF_zero h).1
  have h1 : OrdOk l i := fun hi => Classical.byContradiction fun e => by
    have := stepF_ord h0 hi e
    rw [h] at this; cases this
  refine ⟨h1, fun hu => Classical.byContradiction fun e => ?_⟩
  have := stepF_up h0 h1 hu e
  rw [h] at this; cases this
theorem up_lt {s : ByteArray} (h : 0 < s.size) : (pathUp s).size < s.size := by
  rcases last_cases s with ⟨_, e, _⟩ | ⟨i, _, hi, e, _⟩
  · rw [e]; exact h
  · rw [e]; simp; omega
/-- is a path taken, with all that it is in? -/
def allTk (r : List Rul) (s : ByteArray) : Bool := if h : 0 < s.size then takenR r s && allTk r (pathUp s) else true
  termination_by s.size
  decreasing_by exact up_lt h
theorem allTk_none {r : List Rul} {s : ByteArray} (h : s.size = 0) : allTk r s = true := by rw [allTk, dif_neg (by omega)]
theorem allTk_more {r : List Rul} {s : ByteArray} (h : 0 < s.size) : allTk r s = (takenR r s && allTk r (pathUp s)) := by rw [allTk, dif_pos h]
theorem treeFind_mem : ∀ {l : List Nod} {s : ByteArray} {x : Nod}, x ∈ l → x.path = s → treeFind l s < l.length
  | [], _, _, h, _ => by cases h
  | y :: l, s, x, h, e => by
    unfold treeFind
    by_cases e1 : y.path = s
    · rw [if_pos e1]; simp
    · rw [if_neg e1]
      have := treeFind_mem (l := l) (s := s) (by rcases List.mem_cons.1 h with rfl | h; exact absurd e e1; exact h) e
      simp; omega
def keptB (r : List Rul) (x : Nod) : Bool := allTk r x.path
theorem kept_up {l : List Nod} {r : List Rul} {i : Nat} (h : treeFault l = 0) (hi : i < l.length) (hu : (pathUp (nk l i).path).size ≠ 0) :
    treeFind ((l.take i).filter (keptB r)) (pathUp (nk l i).path) < ((l.take i).filter (keptB r)).length ↔ allTk r (pathUp (nk l i).path) = true := by
  generalize hs : pathUp (nk l i).path = s at *
  constructor
  · intro hf
    have hp := treeFind_lt hf
    generalize hq : treeFind ((l.take i).filter (keptB r)) s = q at *
    have hm : nk ((l.take i).filter (keptB r)) q ∈ (l.take i).filter (keptB r) := by rw [nk_eq hf]; exact List.getElem_mem _
    have := (List.mem_filter.1 hm).2
    have e : allTk r (nk ((l.take i).filter (keptB r)) q).path = true := this
    rwa [hp] at e
  · intro ht
    have hup := (stepF_ups (treeFault_steps h i hi)).2 (by rw [hs]; exact hu)
    rw [hs] at hup
    have hlen : (l.take i).length = i := by rw [List.length_take]; omega
    have hf : treeFind (l.take i) s < (l.take i).length := by rw [hlen]; exact hup.1
    have hp := treeFind_lt hf
    have hm : nk (l.take i) (treeFind (l.take i) s) ∈ l.take i := by rw [nk_eq hf]; exact List.getElem_mem _
    exact treeFind_mem (List.mem_filter.2 ⟨hm, by unfold keptB; rw [hp]; exact ht⟩) hp
noncomputable def filtered (l : List Nod) (r : List Rul) : List Nod × Int := if ¬ treeFault l = 0 then ([], treeFault l) else if ¬ rulesFault r = 0 then ([], rulesFault r) else (l.filter (keptB r), 0)
theorem filtered_bad {l : List Nod} {r : List Rul} (h : ¬ treeFault l = 0) : filtered l r = ([], treeFault l) := by unfold filtered; rw [if_pos h]
theorem filtered_rules {l : List Nod} {r : List Rul} (h : treeFault l = 0) (h2 : ¬ rulesFault r = 0) : filtered l r = ([], rulesFault r) := by unfold filtered; rw [if_neg (by simpa using h), if_pos h2]
theorem filtered_ok {l : List Nod} {r : List Rul} (h : treeFault l = 0) (h2 : rulesFault r = 0) : filtered l r = (l.filter (keptB r), 0) := by unfold filtered; rw [if_neg (by simpa using h), if_neg (by simpa using h2)]
theorem keep_none {l : List Nod} {r : List Rul} {i : Nat} (ht : takenR r (nk l i).path = false) (hp : 0 < (nk l i).path.size) : keptB r (nk l i) = false := by unfold keptB; rw [allTk_more hp, ht]; rfl
theorem keep_root {l : List Nod} {r : List Rul} {i : Nat} (ht : takenR r (nk l i).path = true) (hp : 0 < (nk l i).path.size) (hu : (pathUp (nk l i).path).size = 0) : keptB r (nk l i) = true := by unfold keptB; rw [allTk_more hp, ht, allTk_none hu]; rfl
theorem keep_up {l : List Nod} {r : List Rul} {i : Nat} (h : treeFault l = 0) (hi : i < l.length) (ht : takenR r (nk l i).path = true) (hp : 0 < (nk l i).path.size) (hu : (pathUp (nk l i).path).size ≠ 0) :
    keptB r (nk l i) = decide (treeFind ((l.take i).filter (keptB r)) (pathUp (nk l i).path) < ((l.take i).filter (keptB r)).length) := by
  unfold keptB
  rw [allTk_more hp, ht, Bool.true_and, Bool.eq_iff_iff, decide_eq_true_eq]
  exact (kept_up (r := r) h hi hu).symm
theorem nodFault_pos {x : Nod} (h : nodFault x = 0) : 0 < x.path.size := by
  unfold nodFault nodFaultN at h
  have hp : pathFault x.path = 0 := Classical.byContradiction fun e => by rw [if_pos e] at h; exact e h
  exact (pathFault_inv hp).1
theorem filtered_len (l : List Nod) (r : List Rul) : (filtered l r).1.length ≤ maxLen := by
  unfold maxLen
  by_cases h : treeFault l = 0
  · have h1 := (treeFault_all h).1
    by_cases hf : rulesFault r = 0
    · rw [filtered_ok h hf]
      have h2 : (l.filter (keptB r)).length ≤ l.length := List.length_filter_le _ _
      simp only
      omega
    · rw [filtered_rules h hf]; simp
  · rw [filtered_bad h]; simp
end Go.Creel
/-
  filter.Run, walked.
-/
namespace Go.Proofs.YtecmcgedeaemgaaDoor
theorem findIE_yes {n m : Nat} (h : n < m) : findIE n m = ((n : Int), 0) := if_pos h
theorem findIE_no {n m : Nat} (h : ¬ n < m) : findIE n m = (0, 5) := if_neg h
end Go.Proofs.YtecmcgedeaemgaaDoor
namespace Go.Proofs.YtecmcgedeaemgaaDoor
set_option linter.unusedVariables false
set_option linter.unusedSimpArgs false
open Go.Creel Go.RowKit
set_option maxRecDepth 100000 in
set_option maxHeartbeats 4000000 in
theorem RunL_at (b off cap : Nat) (l : List Nod) (rv : Value) (r : List Rul) (w : World) (hM : MaxOk w) (hpos : 0 < l.length) (hle : l.length ≤ cap) (hm : cap ≤ maxLen) (hc : NodsAt w b off l) (hok : ∀ i, i < l.length → (nk l i).Ok maxLen w) (h : SliceC maxLen 12 (NodC maxLen) w [.slice (some ⟨b, off, none⟩) l.length cap] l) (hr : SliceC maxLen 2 (RulC maxLen) w [rv] r) (hE : treeFault l = 0) (hR : rulesFault r = 0) :
    Calls Tryd.prog 46 #[.slice (some ⟨b, off, none⟩) l.length cap, rv] w (RetTE 48 w (filtered l r)) := by
  obtain ⟨i0, hi, hz0, hz1, hz2⟩ := info_parts info_node
  have HI := Lib.hid (And.intro hi (And.intro hz0 (And.intro hz1 hz2)))
  have HM := Lib.hid hM
  have H := Lib.hid h
  have HR := Lib.hid hr
  have HC := Lib.hid hc
  have HK := Lib.hid hok
  unfold maxLen at hm
  have HF := Lib.hid (filtered_ok hE hR)
  have hfew := (treeFault_all hE).1
  have HD := Lib.hid (treeFault_dat hE)
  have HPS := Lib.hid (fun k (hk : k < l.length) => nodFault_size ((treeFault_all hE).2 k hk))
  have HPP := Lib.hid (fun k (hk : k < l.length) => nodFault_pos ((treeFault_all hE).2 k hk))
  have HKU := Lib.hid (fun k (hk : k < l.length) => keep_up (r := r) hE hk)
  have HCT := Lib.hid (fun w hM (h : SliceC maxLen 12 (NodC maxLen) w [.slice (some ⟨b, off, none⟩) l.length cap] l) => TreeCheck_any _ l w hM h)
  have HCR := Lib.hid (fun w hM (h : SliceC maxLen 2 (RulC maxLen) w [rv] r) => RulesL_any rv r w hM h)
  rw [hE] at HCT
  rw [hR] at HCR
  clear h hc hok hi hz0 hz1 hz2 hM hr hE hR
  go_enter Tryd.func46, Tryd.ntmps46
  go_wp2_with fail
  refine (HCT.out _ HM.out H.out).mono ?_
  rintro e w1 ⟨rfl, hb⟩
  have HB1 := Lib.hid hb
  clear hb
  go_wp2_with fail
  refine (HCR.out _ (HM.out.below HB1.out) (ruls_below HR.out HB1.out)).mono ?_
  rintro e w2 ⟨rfl, hb⟩
  have HB2 := Lib.hid (HB1.out.trans (hb.mono HB1.out.size))
  clear hb
  go_wp2
  go_loopw [8, 10, 11, 12, 25] (fun v8 _ _ _ i wr => ∃ (k : Nat) (v : Value), k ≤ l.length ∧ i = .int .i64 k ∧ v = v8 ∧ Hid (OwnNods 48 wr w.heap.size v ((l.take k).filter (keptB r))) ∧ Hid (Below w.heap.size w wr)) (fun _ _ _ _ i _ => l.length - (intOf i).toNat)
  case atStart => exact ⟨0, _, by omega, rfl, rfl, Lib.hid (OwnNods.nil _ _ _), HB2⟩
  case round =>
    obtain ⟨k, v, hk, rfl, rfl, HOW, HB⟩ := hrel
    by_cases hlt : k < l.length
    · obtain ⟨h0, h1, h2, h3, h4, h5, h6, h7, h8, h9, h10, h11⟩ := (HC.out.below HB.out) k hlt
      have HKX := Lib.hid (HK.out k hlt)
      have HPX := Lib.hid (HPS.out k hlt)
      have HKN := Lib.hid (fun h => keep_none (r := r) (i := k) h (HPP.out k hlt))
      have HKR := Lib.hid (fun h h2 => keep_root (r := r) (i := k) h (HPP.out k hlt) h2)
      have HKY := Lib.hid (fun h h2 => HKU.out k hlt h (HPP.out k hlt) h2)
      have HKE := Lib.hid (fun h => filterTo_keep (p := keptB r) hlt h)
      have HSK := Lib.hid (fun h => filterTo_skip (p := keptB r) hlt h)
      have hcl : ((l.take k).filter (keptB r)).length ≤ k := Nat.le_trans (List.length_filter_le _ _) (by rw [List.length_take]; omega)
      have HUS := Lib.hid (Nat.le_trans (up_size (nk l k).path) HPX.out)
      generalize nk l k = x at *
      generalize hcc : (l.take k).filter (keptB r) = c at *
      clear hcc
      have HBX := Lib.hid ((Below.refl wr.heap.size wr).alloc (Nat.le_refl _) (boxOf x))
      have HBZ := Lib.hid (nodAt_box wr x 48)
      have HU := Lib.hid (fun w : World => Up_any x.path w (Nat.le_trans HPX.out (by omega)))
      have HT := Lib.hid (fun (w : World) hM h => TakesL_any rv r x.path w hM (Nat.le_trans HPX.out (by unfold maxLen; omega)) h)
      have HFD := Lib.hid (fun (w : World) h => FindN_any v c (pathUp x.path) w h)
      generalize pathUp x.path = up at *
      generalize hfi : findIE (treeFind c up) c.length = fi at *
      obtain ⟨f1, f2⟩ := fi
      have HFI := Lib.hid hfi
      clear hfi
      have HSL := Lib.hid (HOW.out.slice (by unfold maxLen; omega))
      go_wp2_with fail
      refine (HU.out _).mono ?_
      rintro e w3 ⟨rfl, rfl⟩
      go_wp2_with fail
      refine (HFD.out _ (nods_below HSL.out HBX.out)).mono ?_
      rintro e w3 ⟨rfl, hb⟩
      have HB3 := Lib.hid (HBX.out.trans (hb.mono HBX.out.size))
      obtain ⟨d0, _⟩ := (HBZ.out.below hb).zero
      have HBZ3 := Lib.hid (HBZ.out.below hb)
      clear hb
      have HW3 := Lib.hid (HB.out.trans (HB3.out.mono HB.out.size))
      go_wp2_with fail
      refine (HT.out _ (HM.out.below HW3.out) (ruls_below HR.out HW3.out)).mono ?_
      rintro e w4 ⟨rfl, hb⟩
      have HB4 := Lib.hid (HB3.out.trans (hb.mono HB3.out.size))
      obtain ⟨c0, c1, c2, c3, c4, c5, c6, c7, c8, c9, c10, c11⟩ := (HBZ3.out.below hb).zero
      clear hb d0
      have HW4 := Lib.hid (HB.out.trans (HB4.out.mono HB.out.size))
      have HO4 := Lib.hid (HOW.out.below HB4.out)
      cases htk : takenR r x.path with
      | false =>
        have HSK2 := Lib.hid (HSK.out (HKN.out htk))
        clear htk
        go_wp2
        go_roundw
        case rel => exact ⟨k + 1, _, by omega, by go_num, rfl, Lib.hid (by rw [HSK2.out]; exact HO4.out), HW4⟩
        case measure => simp [intOf]; omega
      | true =>
        have HA := Lib.hid (HB4.out.alloc HB4.out.size (boxOf x))
        have HO3 := Lib.hid (HOW.out.below HA.out)
        have HBA := Lib.hid (HB.out.trans (HA.out.mono HB.out.size))
        have HN3 := Lib.hid (nodIn_arg HKX.out HBA.out HOW.out)
        have HFIN := Lib.hid (show ∀ v2 w4', w4'.ownsRow w.heap.size 48 12 v2 (c.length + 1) (c.flatMap Nod.cells ++ [x].flatMap Nod.cells) → (w4.alloc (boxOf x)).grownBy w4' v.ownBlock → (v2.ownBlock = v.ownBlock ∨ ∃ b, v2.ownBlock = some b ∧ (w4.alloc (boxOf x)).heap.size ≤ b) → OwnNods 48 w4' w.heap.size v2 (c ++ [x]) ∧ Below w.heap.size w w4' from
          fun v2 w4' ho2 hg2 hv2 => ⟨HO3.out.app (m := [x]) (fun y hy => by rw [List.mem_singleton.1 hy]; exact HN3.out) ho2 hg2 hv2, below_app HBA.out hg2 HO3.out.1 HBA.out.size⟩)
        by_cases hu : up.size = 0
        · have he := empty_t hu
          have HKE2 := Lib.hid (HKE.out (HKR.out htk hu))
          clear htk hu
          go_wp2_with (first
            | (go_at_call 94; refine (HU.out _).mono ?_; rintro e w5 ⟨rfl, rfl⟩)
            | (at_builtin; refine wpList_app _ rfl (.tmp 51) (.tmp 53) 40 40 rfl _ _ rfl rfl (fun ty => app_src _ 40 40 ty w.heap.size 48 i0 _ 12 144 Tryd.underlying40 HI.out.1 HI.out.2.1 HI.out.2.2.1 HI.out.2.2.2 rfl (by decide) _ _ c.length 1 _ _ HO3.out.1 (src_nod w4 _ _ _ Tryd.underlying40 x) (by unfold maxLen; omega) (by omega) HBA.out.size) ?_; intro v2 w5 ho2 hg2 hv2; have HZ := Lib.hid (HFIN.out v2 w5 ho2 hg2 hv2.2); clear ho2 hg2 hv2))
          go_wp2
          go_roundw
          case rel => exact ⟨k + 1, _, by omega, by go_num, rfl, Lib.hid (by rw [HKE2.out]; exact HZ.out.1), Lib.hid HZ.out.2⟩
          case measure => simp [intOf]; omega
        · have he := empty_f hu
          have HKB := Lib.hid (HKY.out htk hu)
          clear htk hu
          by_cases hfd : treeFind c up < c.length
          · have HKE2 := Lib.hid (HKE.out (by rw [HKB.out]; exact decide_eq_true hfd))
            have hf2 : f2 = 0 := by have := HFI.out; rw [findIE_yes hfd] at this; exact (congrArg Prod.snd this).symm
            subst hf2
            clear hfd
            go_wp2_with (first
              | (go_at_call 94; refine (HU.out _).mono ?_; rintro e w5 ⟨rfl, rfl⟩)
              | (at_builtin; refine wpList_app _ rfl (.tmp 51) (.tmp 53) 40 40 rfl _ _ rfl rfl (fun ty => app_src _ 40 40 ty w.heap.size 48 i0 _ 12 144 Tryd.underlying40 HI.out.1 HI.out.2.1 HI.out.2.2.1 HI.out.2.2.2 rfl (by decide) _ _ c.length 1 _ _ HO3.out.1 (src_nod w4 _ _ _ Tryd.underlying40 x) (by unfold maxLen; omega) (by omega) HBA.out.size) ?_; intro v2 w5 ho2 hg2 hv2; have HZ := Lib.hid (HFIN.out v2 w5 ho2 hg2 hv2.2); clear ho2 hg2 hv2))
            go_wp2
            go_roundw
            case rel => exact ⟨k + 1, _, by omega, by go_num, rfl, Lib.hid (by rw [HKE2.out]; exact HZ.out.1), Lib.hid HZ.out.2⟩
            case measure => simp [intOf]; omega
          · have HSK2 := Lib.hid (HSK.out (by rw [HKB.out]; exact decide_eq_false hfd))
            have hf2 : f2 = 5 := by have := HFI.out; rw [findIE_no hfd] at this; exact (congrArg Prod.snd this).symm
            subst hf2
            clear hfd
            go_wp2_with (go_at_call 94; refine (HU.out _).mono ?_; rintro e w5 ⟨rfl, rfl⟩)
            go_roundw
            case rel => exact ⟨k + 1, _, by omega, by go_num, rfl, Lib.hid (by rw [HSK2.out]; exact HO4.out), HW4⟩
            case measure => simp [intOf]; omega
    · obtain rfl : k = l.length := by omega
      rw [List.take_length] at HOW
      have hcl : (l.filter (keptB r)).length ≤ l.length := List.length_filter_le _ _
      go_wp2_with fail
      refine (CopyL_any _ (l.filter (keptB r)) _ (HOW.out.slice (by unfold maxLen; omega)) (by omega) (filter_dat _ HD.out)).mono ?_
      rintro e w5 ⟨v5, c, rfl, ho, hcb, hb⟩
      have HO5 := Lib.hid (ho.mono HB.out.size)
      have HB5 := Lib.hid (HB.out.trans (hb.mono HB.out.size))
      have HC5 := Lib.hid hcb
      clear ho hb hcb
      go_wp2
      go_ret2
      rw [HF.out]
      exact ⟨_, c, rfl, HO5.out, HC5.out, HB5.out⟩
end Go.Proofs.YtecmcgedeaemgaaDoor
/-
  creelref.Filtered, walked.
-/
namespace Go.Creel
set_option linter.unusedVariables false
/-- the walk up a path: what is said so far, and what is left -/
def UpTo (r : List Rul) (s : ByteArray) (q : Bool) (t : ByteArray) : Prop := t.size ≤ 400 ∧ (q && allTk r t) = allTk r s
theorem UpTo.start {r : List Rul} {s : ByteArray} (h : s.size ≤ 400) : UpTo r s true s := ⟨h, Bool.true_and _⟩
theorem UpTo.next {r : List Rul} {s t : ByteArray} {q : Bool} (h : UpTo r s q t) (ht : 0 < t.size) : UpTo r s (q && takenR r t) (pathUp t) ∧ (pathUp t).size < t.size := by
  have hl := up_lt ht
  refine ⟨⟨by have := h.1; omega, ?_⟩, hl⟩
  rw [← h.2, allTk_more ht, Bool.and_assoc]
theorem UpTo.next_f {r : List Rul} {s t : ByteArray} (h : UpTo r s false t) (ht : 0 < t.size) : UpTo r s false (pathUp t) ∧ (pathUp t).size < t.size := by
  have := h.next ht
  rwa [Bool.false_and] at this
theorem UpTo.done {r : List Rul} {s t : ByteArray} {q : Bool} (h : UpTo r s q t) (ht : t.size = 0) : allTk r s = q := by
  rw [← h.2, allTk_none ht, Bool.and_true]
end Go.Creel
namespace Go.Proofs.YtecmcgedeaemgaaDoor
set_option linter.unusedVariables false
set_option linter.unusedSimpArgs false
open Go.Creel Go.RowKit
set_option maxRecDepth 100000 in
set_option maxHeartbeats 4000000 in
theorem RunR_at (b off cap : Nat) (l : List Nod) (rv : Value) (r : List Rul) (w : World) (hpos : 0 < l.length) (hle : l.length ≤ cap) (hm : cap ≤ maxLen) (hc : NodsAt w b off l) (hok : ∀ i, i < l.length → (nk l i).Ok maxLen w) (h : SliceC maxLen 12 (NodC maxLen) w [.slice (some ⟨b, off, none⟩) l.length cap] l) (hr : SliceC maxLen 2 (RulC maxLen) w [rv] r) (hE : treeFault l = 0) (hR : rulesFault r = 0) :
    Calls Tryd.prog 47 #[.slice (some ⟨b, off, none⟩) l.length cap, rv] w (RetTE 48 w (filtered l r)) := by
  obtain ⟨i0, hi, hz0, hz1, hz2⟩ := info_parts info_node
  have HI := Lib.hid (And.intro hi (And.intro hz0 (And.intro hz1 hz2)))
  have H := Lib.hid h
  have HR := Lib.hid hr
  have HC := Lib.hid hc
  have HK := Lib.hid hok
  unfold maxLen at hm
  have HF := Lib.hid (filtered_ok hE hR)
  have hfew := (treeFault_all hE).1
  have HD := Lib.hid (treeFault_dat hE)
  have HPS := Lib.hid (fun k (hk : k < l.length) => nodFault_size ((treeFault_all hE).2 k hk))
  have HCT := Lib.hid (fun w (h : SliceC maxLen 12 (NodC maxLen) w [.slice (some ⟨b, off, none⟩) l.length cap] l) => TreeFault_any _ l w h)
  have HCR := Lib.hid (fun w (h : SliceC maxLen 2 (RulC maxLen) w [rv] r) => RulesR_any rv r w h)
  rw [hE] at HCT
  rw [hR] at HCR
  clear h hc hok hi hz0 hz1 hz2 hr hE hR
  go_enter Tryd.func47, Tryd.ntmps47
  go_wp2_with fail
  refine (HCT.out _ H.out).mono ?_
  rintro e w1 ⟨rfl, hb⟩
  have HB1 := Lib.hid hb
  clear hb
  go_wp2_with fail
  refine (HCR.out _ (ruls_below HR.out HB1.out)).mono ?_
  rintro e w2 ⟨rfl, hb⟩
  have HB2 := Lib.hid (HB1.out.trans (hb.mono HB1.out.size))
  clear hb
  go_wp2
  go_loopw [8, 10, 11, 12, 25] (fun v _ _ _ i wr => ∃ k : Nat, k ≤ l.length ∧ i = .int .i64 k ∧ Hid (OwnNods 48 wr w.heap.size v ((l.take k).filter (keptB r))) ∧ Hid (Below w.heap.size w wr)) (fun _ _ _ _ i _ => l.length - (intOf i).toNat)
  case atStart => exact ⟨0, by omega, rfl, Lib.hid (OwnNods.nil _ _ _), HB2⟩
  case round =>
    obtain ⟨k, hk, rfl, HOW, HB⟩ := hrel
    by_cases hlt : k < l.length
    · obtain ⟨h0, h1, h2, h3, h4, h5, h6, h7, h8, h9, h10, h11⟩ := (HC.out.below HB.out) k hlt
      have HKX := Lib.hid (HK.out k hlt)
      have HPX := Lib.hid (HPS.out k hlt)
      have HKE := Lib.hid (fun h => filterTo_keep (p := keptB r) hlt h)
      have HSK := Lib.hid (fun h => filterTo_skip (p := keptB r) hlt h)
      have hcl : ((l.take k).filter (keptB r)).length ≤ k := Nat.le_trans (List.length_filter_le _ _) (by rw [List.length_take]; omega)
      generalize nk l k = x at *
      generalize hcc : (l.take k).filter (keptB r) = c at *
      clear hcc
      have HBX := Lib.hid ((Below.refl wr.heap.size wr).alloc (Nat.le_refl _) (boxOf x))
      have HBZ := Lib.hid (nodAt_box wr x 48)
      obtain ⟨wo, rfl⟩ : ∃ wo : World, wo = wr := ⟨_, rfl⟩
      go_wp2
      go_loopw [11, 12] (fun v11 v12 w5 => ∃ (q : Bool) (t : ByteArray), v11 = .bool q ∧ v12 = .string t ∧ Hid (UpTo r x.path q t) ∧ Hid (Below wo.heap.size wo w5) ∧ Hid (NodAt w5 wo.heap.size 0 x)) (fun _ v12 _ => slen v12)
      case atStart => exact ⟨true, x.path, rfl, rfl, Lib.hid (UpTo.start HPX.out), HBX, HBZ⟩
      case round =>
        obtain ⟨q, t, rfl, rfl, HUP, HB5, HZ5⟩ := hrel
        have HW5 := Lib.hid (HB.out.trans (HB5.out.mono HB.out.size))
        have hts := HUP.out.1
        by_cases ht : t.size = 0
        · have he := empty_t ht
          have HQ := Lib.hid (show keptB r x = q from HUP.out.done ht)
          obtain ⟨c0, c1, c2, c3, c4, c5, c6, c7, c8, c9, c10, c11⟩ := HZ5.out.zero
          clear ht
          cases q with
          | false =>
            have HSK2 := Lib.hid (HSK.out HQ.out)
            go_wp2
            go_roundw
            case rel => exact ⟨k + 1, by omega, by go_num, Lib.hid (by rw [HSK2.out]; exact HOW.out.below HB5.out), HW5⟩
            case measure => simp [intOf]; omega
          | true =>
            have HKE2 := Lib.hid (HKE.out HQ.out)
            have HA := Lib.hid (HB5.out.alloc HB5.out.size (boxOf x))
            have HO3 := Lib.hid (HOW.out.below HA.out)
            have HBA := Lib.hid (HB.out.trans (HA.out.mono HB.out.size))
            have HN3 := Lib.hid (nodIn_arg HKX.out HBA.out HOW.out)
            go_wp2_with (at_builtin; refine wpList_app _ rfl (.tmp 45) (.tmp 47) 40 40 rfl _ _ rfl rfl (fun ty => app_src _ 40 40 ty w.heap.size 48 i0 _ 12 144 Tryd.underlying40 HI.out.1 HI.out.2.1 HI.out.2.2.1 HI.out.2.2.2 rfl (by decide) _ _ c.length 1 _ _ HO3.out.1 (src_nod wr _ _ _ Tryd.underlying40 x) (by unfold maxLen; omega) (by omega) HBA.out.size) ?_; intro v2 w6 ho2 hg2 hv2; have HZ := Lib.hid (And.intro ho2 (And.intro hg2 hv2)); clear ho2 hg2 hv2)
            have HO4 := Lib.hid (HO3.out.app (m := [x]) (fun y hy => by rw [List.mem_singleton.1 hy]; exact HN3.out) HZ.out.1 HZ.out.2.1 HZ.out.2.2.2)
            have HB4 := Lib.hid (below_app HBA.out HZ.out.2.1 HO3.out.1 HBA.out.size)
            go_wp2
            go_roundw
            case rel => exact ⟨k + 1, by omega, by go_num, Lib.hid (by rw [HKE2.out]; exact HO4.out), HB4⟩
            case measure => simp [intOf]; omega
        · have he := empty_f ht
          have hne : (!t.toList.isEmpty) = true := by rw [he]; rfl
          have HT := Lib.hid (fun (w : World) h => TakenR_any rv r t w (by unfold maxLen; omega) h)
          have HS := Lib.hid (fun w => PathSplit_any t w (by omega))
          cases q with
          | false =>
            have HNX := Lib.hid (HUP.out.next_f (by omega))
            generalize pathUp t = u at *
            clear ht
            go_wp2_with fail
            refine (HS.out _).mono ?_
            rintro e w6 ⟨rfl, hb⟩
            have HB6 := Lib.hid (HB5.out.trans (hb.mono HB5.out.size))
            have HZ6 := Lib.hid (HZ5.out.below hb)
            clear hb
            go_wp2
            go_roundw
            case rel => exact ⟨_, _, rfl, rfl, Lib.hid HNX.out.1, HB6, HZ6⟩
            case measure => simp only [slen]; exact HNX.out.2
          | true =>
            have HNX := Lib.hid (HUP.out.next (by omega))
            rw [Bool.true_and] at HNX
            generalize pathUp t = u at *
            generalize takenR r t = tk at *
            clear ht
            go_wp2_with fail
            refine (HT.out _ (ruls_below HR.out HW5.out)).mono ?_
            rintro e w6 ⟨rfl, hb⟩
            have HB6 := Lib.hid (HB5.out.trans (hb.mono HB5.out.size))
            have HZ6 := Lib.hid (HZ5.out.below hb)
            clear hb
            go_wp2_with fail
            refine (HS.out _).mono ?_
            rintro e w7 ⟨rfl, hb⟩
            have HB7 := Lib.hid (HB6.out.trans (hb.mono HB6.out.size))
            have HZ7 := Lib.hid (HZ6.out.below hb)
            clear hb
            go_wp2
            go_roundw
            case rel => exact ⟨_, _, rfl, rfl, Lib.hid HNX.out.1, HB7, HZ7⟩
            case measure => simp only [slen]; exact HNX.out.2
    · obtain rfl : k = l.length := by omega
      rw [List.take_length] at HOW
      have hcl : (l.filter (keptB r)).length ≤ l.length := List.length_filter_le _ _
      go_wp2_with fail
      refine (CopyR_any _ (l.filter (keptB r)) _ (HOW.out.slice (by unfold maxLen; omega)) (by omega) (filter_dat _ HD.out)).mono ?_
      rintro e w5 ⟨v5, c, rfl, ho, hcb, hb⟩
      have HO5 := Lib.hid (ho.mono HB.out.size)
      have HB5 := Lib.hid (HB.out.trans (hb.mono HB.out.size))
      have HC5 := Lib.hid hcb
      clear ho hb hcb
      go_wp2
      go_ret2
      rw [HF.out]
      exact ⟨_, c, rfl, HO5.out, HC5.out, HB5.out⟩
end Go.Proofs.YtecmcgedeaemgaaDoor
/-
  filter.Run and its reference, at every argument.
-/
namespace Go.Creel
theorem filtered_nil {r : List Rul} (h : rulesFault r = 0) (h0 : treeFault [] = 0) : filtered [] r = ([], 0) := by rw [filtered_ok h0 h]; rfl
end Go.Creel
namespace Go.Proofs.YtecmcgedeaemgaaDoor
set_option linter.unusedVariables false
set_option linter.unusedSimpArgs false
open Go.Creel Go.RowKit
set_option maxRecDepth 100000 in
set_option maxHeartbeats 1000000 in
theorem RunL_bad (v : Value) (l : List Nod) (rv : Value) (r : List Rul) (w : World) (hM : MaxOk w) (h : SliceC maxLen 12 (NodC maxLen) w [v] l) (hr : SliceC maxLen 2 (RulC maxLen) w [rv] r) (hE : ¬ treeFault l = 0) :
    Calls Tryd.prog 46 #[v, rv] w (RetTE 48 w (filtered l r)) := by
  have HF := Lib.hid (filtered_bad (r := r) hE)
  have HC := Lib.hid (TreeCheck_any v l w hM h)
  generalize treeFault l = c at *
  have hq : (c == 0) = false := by rw [beq_eq_false_iff_ne]; exact hE
  clear hE h hr
  go_enter Tryd.func46, Tryd.ntmps46
  go_wp2_with fail
  refine HC.out.mono ?_
  rintro e w1 ⟨rfl, hb⟩
  have HB1 := Lib.hid hb
  clear hb
  go_wp2
  go_ret2
  rw [HF.out]
  exact ⟨_, [], rfl, OwnNods.nil _ _ _, rfl, HB1.out⟩
set_option maxRecDepth 100000 in
set_option maxHeartbeats 1000000 in
theorem RunL_rules (v : Value) (l : List Nod) (rv : Value) (r : List Rul) (w : World) (hM : MaxOk w) (h : SliceC maxLen 12 (NodC maxLen) w [v] l) (hr : SliceC maxLen 2 (RulC maxLen) w [rv] r) (hE : treeFault l = 0) (hR : ¬ rulesFault r = 0) :
    Calls Tryd.prog 46 #[v, rv] w (RetTE 48 w (filtered l r)) := by
  have HF := Lib.hid (filtered_rules hE hR)
  have HC := Lib.hid (TreeCheck_any v l w hM h)
  have HR := Lib.hid hr
  have HC2 := Lib.hid (fun w hM (hr : SliceC maxLen 2 (RulC maxLen) w [rv] r) => RulesL_any rv r w hM hr)
  have HM := Lib.hid hM
  clear hM
  rw [hE] at HC
  generalize rulesFault r = c at *
  have hq : (c == 0) = false := by rw [beq_eq_false_iff_ne]; exact hR
  clear hE h hr hR
  go_enter Tryd.func46, Tryd.ntmps46
  go_wp2_with fail
  refine HC.out.mono ?_
  rintro e w1 ⟨rfl, hb⟩
  have HB1 := Lib.hid hb
  clear hb
  go_wp2_with fail
  refine (HC2.out _ (HM.out.below HB1.out) (ruls_below HR.out HB1.out)).mono ?_
  rintro e w2 ⟨rfl, hb⟩
  have HB2 := Lib.hid (HB1.out.trans (hb.mono HB1.out.size))
  clear hb
  go_wp2
  go_ret2
  rw [HF.out]
  exact ⟨_, [], rfl, OwnNods.nil _ _ _, rfl, HB2.out⟩
set_option maxRecDepth 100000 in
set_option maxHeartbeats 1000000 in
theorem RunL_nil (a : Option Addr) (cap : Nat) (rv : Value) (r : List Rul) (w : World) (hM : MaxOk w) (h : SliceC maxLen 12 (NodC maxLen) w [.slice a 0 cap] []) (hr : SliceC maxLen 2 (RulC maxLen) w [rv] r) (hR : rulesFault r = 0) :
    Calls Tryd.prog 46 #[.slice a 0 cap, rv] w (RetTE 48 w (filtered [] r)) := by
  have h0 := treeFault_zero
  have HF := Lib.hid (filtered_nil hR h0)
  have HC := Lib.hid (TreeCheck_any (.slice a 0 cap) [] w hM h)
  have HR := Lib.hid hr
  have HC2 := Lib.hid (fun w hM (hr : SliceC maxLen 2 (RulC maxLen) w [rv] r) => RulesL_any rv r w hM hr)
  have HM := Lib.hid hM
  clear hM
  rw [h0] at HC
  rw [hR] at HC2
  clear h hr hR h0
  go_enter Tryd.func46, Tryd.ntmps46
  go_wp2_with fail
  refine HC.out.mono ?_
  rintro e w1 ⟨rfl, hb⟩
  have HB1 := Lib.hid hb
  clear hb
  go_wp2_with fail
  refine (HC2.out _ (HM.out.below HB1.out) (ruls_below HR.out HB1.out)).mono ?_
  rintro e w2 ⟨rfl, hb⟩
  have HB2 := Lib.hid (HB1.out.trans (hb.mono HB1.out.size))
  clear hb
  go_wp2
  go_loopw [8, 10, 11, 12, 25] (fun v8 _ _ _ i wr => v8 = .slice none 0 0 ∧ i = .int .i64 0 ∧ wr = w2) (fun _ _ _ _ _ _ => 0)
  case atStart => exact ⟨rfl, rfl, rfl⟩
  case round =>
    obtain ⟨rfl, rfl, hw⟩ := hrel
    rw [hw]
    go_wp2_with fail
    refine (CopyL_nil none 0 _).mono ?_
    rintro e w3 ⟨v3, c3, rfl, ho, hcb, hb⟩
    have HO3 := Lib.hid (ho.mono HB2.out.size)
    have HB3 := Lib.hid (HB2.out.trans (hb.mono HB2.out.size))
    have HC3 := Lib.hid hcb
    clear ho hb hcb
    go_wp2
    go_ret2
    rw [HF.out]
    exact ⟨_, c3, rfl, HO3.out, HC3.out, HB3.out⟩
theorem RunL_any (v : Value) (l : List Nod) (rv : Value) (r : List Rul) (w : World) (hM : MaxOk w) (h : SliceC maxLen 12 (NodC maxLen) w [v] l) (hr : SliceC maxLen 2 (RulC maxLen) w [rv] r) :
    Calls Tryd.prog 46 #[v, rv] w (RetTE 48 w (filtered l r)) := by
  by_cases hE : treeFault l = 0
  · by_cases hR : rulesFault r = 0
    · rcases nods_cases h with ⟨a, cap, rfl, rfl, _⟩ | ⟨b, off, cap, rfl, h1, h2, h3, h6, h4, h5⟩
      · exact RunL_nil a cap rv r w hM h hr hR
      · exact RunL_at b off cap l rv r w hM h1 h2 h3 h4 h5 h hr hE hR
    · exact RunL_rules v l rv r w hM h hr hE hR
  · exact RunL_bad v l rv r w hM h hr hE
set_option maxRecDepth 100000 in
set_option maxHeartbeats 1000000 in
theorem RunR_bad (v : Value) (l : List Nod) (rv : Value) (r : List Rul) (w : World) (h : SliceC maxLen 12 (NodC maxLen) w [v] l) (hr : SliceC maxLen 2 (RulC maxLen) w [rv] r) (hE : ¬ treeFault l = 0) :
    Calls Tryd.prog 47 #[v, rv] w (RetTE 48 w (filtered l r)) := by
  have HF := Lib.hid (filtered_bad (r := r) hE)
  have HC := Lib.hid (TreeFault_any v l w h)
  generalize treeFault l = c at *
  have hq : (c == 0) = false := by rw [beq_eq_false_iff_ne]; exact hE
  clear hE h hr
  go_enter Tryd.func47, Tryd.ntmps47
  go_wp2_with fail
  refine HC.out.mono ?_
  rintro e w1 ⟨rfl, hb⟩
  have HB1 := Lib.hid hb
  clear hb
  go_wp2
  go_ret2
  rw [HF.out]
  exact ⟨_, [], rfl, OwnNods.nil _ _ _, rfl, HB1.out⟩
set_option maxRecDepth 100000 in
set_option maxHeartbeats 1000000 in
theorem RunR_rules (v : Value) (l : List Nod) (rv : Value) (r : List Rul) (w : World) (h : SliceC maxLen 12 (NodC maxLen) w [v] l) (hr : SliceC maxLen 2 (RulC maxLen) w [rv] r) (hE : treeFault l = 0) (hR : ¬ rulesFault r = 0) :
    Calls Tryd.prog 47 #[v, rv] w (RetTE 48 w (filtered l r)) := by
  have HF := Lib.hid (filtered_rules hE hR)
  have HC := Lib.hid (TreeFault_any v l w h)
  have HR := Lib.hid hr
  have HC2 := Lib.hid (fun w (hr : SliceC maxLen 2 (RulC maxLen) w [rv] r) => RulesR_any rv r w hr)
  rw [hE] at HC
  generalize rulesFault r = c at *
  have hq : (c == 0) = false := by rw [beq_eq_false_iff_ne]; exact hR
  clear hE h hr hR
  go_enter Tryd.func47, Tryd.ntmps47
  go_wp2_with fail
  refine HC.out.mono ?_
  rintro e w1 ⟨rfl, hb⟩
  have HB1 := Lib.hid hb
  clear hb
  go_wp2_with fail
  refine (HC2.out _ (ruls_below HR.out HB1.out)).mono ?_
  rintro e w2 ⟨rfl, hb⟩
  have HB2 := Lib.hid (HB1.out.trans (hb.mono HB1.out.size))
  clear hb
  go_wp2
  go_ret2
  rw [HF.out]
  exact ⟨_, [], rfl, OwnNods.nil _ _ _, rfl, HB2.out⟩
set_option maxRecDepth 100000 in
set_option maxHeartbeats 1000000 in
theorem RunR_nil (a : Option Addr) (cap : Nat) (rv : Value) (r : List Rul) (w : World) (h : SliceC maxLen 12 (NodC maxLen) w [.slice a 0 cap] []) (hr : SliceC maxLen 2 (RulC maxLen) w [rv] r) (hR : rulesFault r = 0) :
    Calls Tryd.prog 47 #[.slice a 0 cap, rv] w (RetTE 48 w (filtered [] r)) := by
  have h0 := treeFault_zero
  have HF := Lib.hid (filtered_nil hR h0)
  have HC := Lib.hid (TreeFault_any (.slice a 0 cap) [] w h)
  have HR := Lib.hid hr
  have HC2 := Lib.hid (fun w (hr : SliceC maxLen 2 (RulC maxLen) w [rv] r) => RulesR_any rv r w hr)
  rw [h0] at HC
  rw [hR] at HC2
  clear h hr hR h0
  go_enter Tryd.func47, Tryd.ntmps47
  go_wp2_with fail
  refine HC.out.mono ?_
  rintro e w1 ⟨rfl, hb⟩
  have HB1 := Lib.hid hb
  clear hb
  go_wp2_with fail
  refine (HC2.out _ (ruls_below HR.out HB1.out)).mono ?_
  rintro e w2 ⟨rfl, hb⟩
  have HB2 := Lib.hid (HB1.out.trans (hb.mono HB1.out.size))
  clear hb
  go_wp2
  go_loopw [8, 10, 11, 12, 25] (fun v8 _ _ _ i wr => v8 = .slice none 0 0 ∧ i = .int .i64 0 ∧ wr = w2) (fun _ _ _ _ _ _ => 0)
  case atStart => exact ⟨rfl, rfl, rfl⟩
  case round =>
    obtain ⟨rfl, rfl, hw⟩ := hrel
    rw [hw]
    go_wp2_with fail
    refine (CopyR_nil none 0 _).mono ?_
    rintro e w3 ⟨v3, c3, rfl, ho, hcb, hb⟩
    have HO3 := Lib.hid (ho.mono HB2.out.size)
    have HB3 := Lib.hid (HB2.out.trans (hb.mono HB2.out.size))
    have HC3 := Lib.hid hcb
    clear ho hb hcb
    go_wp2
    go_ret2
    rw [HF.out]
    exact ⟨_, c3, rfl, HO3.out, HC3.out, HB3.out⟩
theorem RunR_any (v : Value) (l : List Nod) (rv : Value) (r : List Rul) (w : World) (h : SliceC maxLen 12 (NodC maxLen) w [v] l) (hr : SliceC maxLen 2 (RulC maxLen) w [rv] r) :
    Calls Tryd.prog 47 #[v, rv] w (RetTE 48 w (filtered l r)) := by
  by_cases hE : treeFault l = 0
  · by_cases hR : rulesFault r = 0
    · rcases nods_cases h with ⟨a, cap, rfl, rfl, _⟩ | ⟨b, off, cap, rfl, h1, h2, h3, h6, h4, h5⟩
      · exact RunR_nil a cap rv r w h hr hR
      · exact RunR_at b off cap l rv r w h1 h2 h3 h4 h5 h hr hE hR
    · exact RunR_rules v l rv r w h hr hE hR
  · exact RunR_bad v l rv r w h hr hE
end Go.Proofs.YtecmcgedeaemgaaDoor
/-
  The world at a law's call holds the library's bound on the lengths that it looks for.
-/
namespace Go.Proofs.YtecmcgedeaemgaaDoor
set_option linter.unusedVariables false
open Go.Creel Go.RowKit
theorem maxOk_of (w : World) (h : w.ShapedOpen Tryd.prog) : MaxOk w := by
  have hc : ∃ m, w.cell? ⟨0, 0, none⟩ = some (.int .i64 m) :=
    Go.Proofs.cell_of_shapedOpen_int (zero := #[.int .i64 0]) (t := 3) h (of_decide_eq_true (by kernel_rfl)) (by kernel_rfl) rfl (by kernel_rfl) (by kernel_rfl) Tryd.underlying3
  refine ⟨?_, hc⟩
  obtain ⟨m, hm⟩ := hc
  rcases Nat.eq_zero_or_pos w.heap.size with h0 | h0
  · unfold World.cell? at hm
    rw [Array.getElem?_eq_none (by omega)] at hm
    simp at hm
  · exact h0
end Go.Proofs.YtecmcgedeaemgaaDoor
/-
  A world that holds the library's tables, for the witness of a row that lists them.
-/
namespace Go.Creel
/-- a datum of numbers, arrays and structs of these, as cells -/
def dcells : Nat → DataW Unit → List Value
  | 0, _ => []
  | _ + 1, .lit (.int k n) => [.int k n]
  | m + 1, .agg ps => ps.flatMap (dcells m)
  | _ + 1, _ => []
/-- the world with these variables laid -/
def layAll (w : World) (l : List (Nat × DataW Unit)) : World :=
  { w with heap := l.foldl (fun h x => h.modify x.1 fun
    | .cells _ t fr => .cells (dcells 4 x.2).toArray t fr
    | o => o) w.heap }
end Go.Creel
/-
  The law FilterRuns, walked.
-/
namespace Go.Proofs.YtecmcgedeaemgaaDoor
set_option linter.unusedVariables false
open Go.Creel Go.RowKit
set_option maxRecDepth 100000 in
set_option maxHeartbeats 1000000 in
theorem filterRuns_walk (w : World) (v : Value) (l : List Nod) (h : SliceC maxLen 12 (NodC maxLen) w [v] l) (rv : Value) (r : List Rul) (hr : SliceC maxLen 2 (RulC maxLen) w [rv] r) (hsh : w.ShapedOpen Tryd.prog) (_hL : laidMetH Tryd.prog Rows.filterRunsRow.laid w) :
    Calls Tryd.prog 12 #[v, rv] w fun e w' => e = .returned (.bool true) ∧ Below w.heap.size w w' := by
  have HM := Lib.hid (maxOk_of w hsh)
  have H := Lib.hid h
  have HRR := Lib.hid hr
  have HL1 := Lib.hid (filtered_len l r)
  have HA := Lib.hid (fun (w : World) (hM : MaxOk w) (h : SliceC maxLen 12 (NodC maxLen) w [v] l) (hr : SliceC maxLen 2 (RulC maxLen) w [rv] r) => RunL_any v l rv r w hM h hr)
  have HC := Lib.hid (fun (w : World) (h : SliceC maxLen 12 (NodC maxLen) w [v] l) (hr : SliceC maxLen 2 (RulC maxLen) w [rv] r) => RunR_any v l rv r w h hr)
  generalize filtered l r = p at *
  obtain ⟨fl, fe⟩ := p
  clear h hsh _hL
  go_enter Tryd.func12, Tryd.ntmps12
  go_wp2_with fail
  refine (HA.out _ HM.out H.out HRR.out).mono ?_
  rintro e w1 ⟨v1, c1, rfl, ho, hc, hb⟩
  have HB1 := Lib.hid hb
  have HO1 := Lib.hid ho
  have HC1 := Lib.hid hc
  have H1 := Lib.hid (nods_below H.out hb)
  clear hb ho hc
  go_wp2_with fail
  refine (HC.out _ H1.out (ruls_below HRR.out HB1.out)).mono ?_
  rintro e w2 ⟨v2, c2, rfl, ho, hc, hb⟩
  have HB2 := Lib.hid (HB1.out.trans (hb.mono HB1.out.size))
  have HO2 := Lib.hid (HO1.out.below hb)
  have HP2 := Lib.hid ho
  have HCC := Lib.hid (HC1.out.trans hc.symm)
  have HN1 := Lib.hid (show c1.length ≤ maxLen by rw [bare_len HC1.out]; exact HL1.out)
  have HN2 := Lib.hid (show c2.length ≤ maxLen by rw [bare_len hc]; exact HL1.out)
  clear hb ho hc
  have q1 : (fe == fe) = true := by simp
  go_wp2_with fail
  refine (SameTree_eq _ _ c1 c2 _ HCC.out (HO2.out.slice HN1.out) (HP2.out.slice HN2.out)).mono ?_
  rintro e w3 ⟨rfl, hb⟩
  have HB3 := Lib.hid (HB2.out.trans (hb.mono HB2.out.size))
  clear hb
  go_wp2
  go_ret
  exact ⟨rfl, HB3.out⟩
end Go.Proofs.YtecmcgedeaemgaaDoor
