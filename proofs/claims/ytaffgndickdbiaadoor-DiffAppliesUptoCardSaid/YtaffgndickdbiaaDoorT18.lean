/-
  Texts: DiffAppliesW.
-/
import Derived.Test.YtaffgndickdbiaaDoorT17
set_option linter.unusedVariables false
set_option linter.unusedSimpArgs false
set_option linter.unusedSectionVars false
namespace Go.Creel
open Go.RowKit
theorem sliceC_moreP {α : Type} {N M n : Nat} {E F : World → List Value → α → Prop} {w : World} {cs : List Value} {l : List α} (h : SliceC N n E w cs l) (hN : N ≤ M) (hE : ∀ c a, E w c a → F w c a) : SliceC M n F w cs l := by
  obtain ⟨a, cap, h0, h1, h2, h3, h4, h5⟩ := h
  refine ⟨a, cap, h0, h1, h2, Nat.le_trans h3 hN, h4, fun hp => ?_⟩
  obtain ⟨b, off, e, hc⟩ := h5 hp
  refine ⟨b, off, e, fun i hi => ?_⟩
  obtain ⟨c, hl, hcc, he⟩ := hc i hi
  exact ⟨c, hl, hcc, hE _ _ he⟩
theorem nodOk_moreP {w : World} {x : Nod} (h1 : x.Ok 1048576 w) : x.Ok maxLen w := by
  have hm : (1048576 : Nat) ≤ maxLen := by unfold maxLen; omega
  exact ⟨Nat.le_trans h1.path hm, h1.kind, h1.same, Nat.le_trans h1.target hm, ⟨h1.mt.mode, h1.mt.uid, h1.mt.gid, Nat.le_trans h1.mt.user hm, Nat.le_trans h1.mt.group hm, h1.mt.second, h1.mt.nano⟩, sliceC_moreP h1.data hm (fun _ _ h => h)⟩
theorem nods_moreP {w : World} {v : Value} {l : List Nod} (h : SliceC 1048576 12 (NodC 1048576) w [v] l) : SliceC maxLen 12 (NodC maxLen) w [v] l :=
  sliceC_moreP h (by unfold maxLen; omega) (fun _ _ h => ⟨h.1, nodOk_moreP h.2⟩)
theorem chgs_moreP {w : World} {v : Value} {l : List Chg} (h : SliceC 1048576 13 (ChgC 1048576) w [v] l) : SliceC maxLen 13 (ChgC maxLen) w [v] l ∧ l.length ≤ 1048576 ∧ ∀ k, k < l.length → NodShort (ck l k).node := by
  refine ⟨sliceC_moreP h (by unfold maxLen; omega) (fun _ _ h => ⟨h.1, h.2.1, nodOk_moreP h.2.2⟩), ?_, fun i hi => ?_⟩
  · obtain ⟨_, _, _, _, _, h3, _⟩ := h; exact h3
  · obtain ⟨_, _, _, _, _, h3, _, h5⟩ := h
    obtain ⟨b, off, e, hc⟩ := h5 (by omega)
    obtain ⟨c, hl, hcc, he⟩ := hc i hi
    rw [ck_eq hi]
    obtain ⟨_, _, _, _, _, h6, _⟩ := he.2.2.data
    exact ⟨he.2.2.path, by omega⟩
theorem applyL_few : ∀ (r : List Chg) (o : List Nod), (applyL o r).1.length ≤ 40
  | [], o => by
    unfold applyL
    split
    · rename_i h; exact (treeFault_all h).1
    · simp
  | c :: r, o => by
    unfold applyL
    split
    · exact applyL_few r _
    · simp
theorem diffApply_few (t : List Nod) (l : List Chg) : (diffApply t l).1.length ≤ 40 := by
  unfold diffApply
  split
  · exact applyL_few l t
  · simp
end Go.Creel
namespace Go.Proofs.YtaffgndickdbiaaDoor
open Go.Creel Go.RowKit
section
variable {H : Type} {enc : TypeId × Value → H} {W : World} {S : DataW H → Prop} {N : Nat}
open Go.ChangeShapes
theorem opens_Change (hS : Bd H S N) : Opens enc Tryd.prog W S 62 (ChgC N) := by
  intro fuel cs x h hx
  have hu := Tryd.underlying62
  have hl := (opens_len hu h).trans (show Tryd.prog.cellsOf 62 = 13 by kernel_rfl)
  obtain ⟨a0, h0⟩ := opens_field hS hu h hx 0 0 1 rfl rfl (by kernel_rfl) opens_Int
  obtain ⟨a1, h1⟩ := opens_field hS hu h hx 1 1 12 rfl rfl (by kernel_rfl) (opens_Node hS)
  obtain ⟨c0, r, rfl⟩ : ∃ c0 r, cs = c0 :: r := by
    cases cs with
    | nil => simp at hl
    | cons a b => exact ⟨a, b, rfl⟩
  have hr : r.length = 12 := by simpa using hl
  simp only [List.drop_zero, List.take_succ_cons, List.take_zero, List.drop_succ_cons] at h0 h1
  rw [List.take_of_length_le (by omega)] at h1
  exact ⟨⟨a0, a1⟩, by have e0 := h0.1; have e1 := h1.1; simp only [List.cons.injEq, and_true] at e0; rw [e0, e1]; rfl, h0.2, h1.2⟩
theorem opens_Changes (hS : Bd H S N) : Opens enc Tryd.prog W S 23 (SliceC N 13 (ChgC N)) := opens_slice hS Tryd.underlying23 (by kernel_rfl) (by decide) (opens_Change hS)
end
set_option maxRecDepth 100000 in
set_option maxHeartbeats 1000000 in
theorem diffApplies_walk (w : World) (v : Value) (t : List Nod) (h : SliceC 1048576 12 (NodC 1048576) w [v] t) (vl : Value) (l : List Chg) (hl : SliceC 1048576 13 (ChgC 1048576) w [vl] l) (hsh : w.ShapedOpen Tryd.prog) (_hL : laidMetH Tryd.prog Rows.diffAppliesUptoRow.laid w) :
    Calls Tryd.prog 6 #[v, vl] w fun e w' => e = .returned (.bool true) ∧ Below w.heap.size w w' := by
  have HM := Lib.hid (maxOk_of w hsh)
  have hw := nods_moreP h
  obtain ⟨hlw, hlen, hsn⟩ := chgs_moreP hl
  have HCB := Lib.hid (fun W (hb : Below w.heap.size w W) => show SliceC maxLen 13 (ChgC maxLen) W [vl] l from hlw.below (fun _ _ ⟨h1, h2, h3⟩ => ⟨h1, h2, h3.below hb⟩) hb)
  have H1 := Lib.hid (ApplyL_any v t vl l w hw hlw hlen hsn HM.out)
  have H2 := Lib.hid (fun W (hb : Below w.heap.size w W) => ApplyR_any v t vl l W (nods_below hw hb) (HCB.out W hb) hlen hsn (HM.out.below hb))
  have HLN := Lib.hid (Nat.le_trans (diffApply_few t l) (show 40 ≤ maxLen by unfold maxLen; decide))
  generalize diffApply t l = p at *
  obtain ⟨fl, fe⟩ := p
  clear h hl hsh _hL hw hlw hlen hsn HCB
  go_enter Tryd.func6, Tryd.ntmps6
  go_wp2_with fail
  refine H1.out.mono ?_
  rintro e w1 ⟨v1, c1, rfl, ho, hc, hb⟩
  have HB1 := Lib.hid hb
  have HO1 := Lib.hid ho
  have HC1 := Lib.hid hc
  clear ho hc hb
  go_wp2_with fail
  refine (H2.out _ HB1.out).mono ?_
  rintro e w2 ⟨v2, c2, rfl, ho, hc, hb⟩
  have HB2 := Lib.hid (HB1.out.trans (hb.mono HB1.out.size))
  have HO2 := Lib.hid (HO1.out.below hb)
  have HP2 := Lib.hid ho
  have HCC := Lib.hid (HC1.out.trans hc.symm)
  have HN1 := Lib.hid (show c1.length ≤ maxLen by rw [bare_len HC1.out]; exact HLN.out)
  have HN2 := Lib.hid (show c2.length ≤ maxLen by rw [bare_len hc]; exact HLN.out)
  clear hb ho hc
  have q1 : (fe == fe) = true := by simp
  go_wp2_with fail
  refine (SameTree_eq _ _ c1 c2 _ HCC.out (HO2.out.slice HN1.out) (HP2.out.slice HN2.out)).mono ?_
  rintro e w3 ⟨rfl, hb⟩
  have HB3 := Lib.hid (HB2.out.trans (hb.mono HB2.out.size))
  clear hb
  go_wp2
  go_ret
  exact ⟨rfl, HB3.out⟩
end Go.Proofs.YtaffgndickdbiaaDoor
