/-
  The law TreePuts, walked.
-/
import Derived.Test.YtecmcgedeaemgaaDoorPutR
import Derived.Test.YtecmcgedeaemgaaDoorMaxOk
import Derived.Test.YtecmcgedeaemgaaDoorLaid
namespace Go.Creel
set_option linter.unusedVariables false
open Go.RowKit
theorem sliceC_more {α : Type} {N M n : Nat} {E F : World → List Value → α → Prop} {w : World} {cs : List Value} {l : List α} (h : SliceC N n E w cs l) (hN : N ≤ M) (hE : ∀ c a, E w c a → F w c a) : SliceC M n F w cs l := by
  obtain ⟨a, cap, h0, h1, h2, h3, h4, h5⟩ := h
  refine ⟨a, cap, h0, h1, h2, Nat.le_trans h3 hN, h4, fun hp => ?_⟩
  obtain ⟨b, off, e, hc⟩ := h5 hp
  refine ⟨b, off, e, fun i hi => ?_⟩
  obtain ⟨c, hl, hcc, he⟩ := hc i hi
  exact ⟨c, hl, hcc, hE _ _ he⟩
theorem nod_more {w : World} {cs : List Value} {x : Nod} (h : NodC 1048576 w cs x) : NodC maxLen w cs x := by
  have hm : (1048576 : Nat) ≤ maxLen := by unfold maxLen; omega
  obtain ⟨h0, h1⟩ := h
  exact ⟨h0, Nat.le_trans h1.path hm, h1.kind, h1.same, Nat.le_trans h1.target hm, ⟨h1.mt.mode, h1.mt.uid, h1.mt.gid, Nat.le_trans h1.mt.user hm, Nat.le_trans h1.mt.group hm, h1.mt.second, h1.mt.nano⟩, sliceC_more h1.data hm (fun _ _ h => h)⟩
/-- a tree of so many values, read as a tree -/
theorem nods_more {w : World} {v : Value} {l : List Nod} (h : SliceC 1048576 12 (NodC 1048576) w [v] l) : SliceC maxLen 12 (NodC maxLen) w [v] l ∧ l.length ≤ 1048576 ∧ ∀ i, i < l.length → (nk l i).data.length ≤ 140737488355328 ∧ (nk l i).path.size ≤ 1048576 := by
  refine ⟨sliceC_more h (by unfold maxLen; omega) (fun _ _ => nod_more), ?_, fun i hi => ?_⟩
  · obtain ⟨_, _, _, _, _, h3, _⟩ := h; exact h3
  · obtain ⟨_, _, _, _, _, h3, _, h5⟩ := h
    obtain ⟨b, off, e, hc⟩ := h5 (by omega)
    obtain ⟨c, hl, hcc, he⟩ := hc i hi
    rw [nk_eq hi]
    obtain ⟨_, _, _, _, _, h6, _⟩ := he.2.data
    exact ⟨by omega, he.2.path⟩
end Go.Creel
namespace Go.Proofs.YtecmcgedeaemgaaDoor
set_option linter.unusedVariables false
open Go.Creel Go.RowKit
set_option maxRecDepth 100000 in
set_option maxHeartbeats 1000000 in
theorem treePuts_walk (w : World) (v : Value) (l : List Nod) (h : SliceC 1048576 12 (NodC 1048576) w [v] l) (cs : List Value) (n : Nod) (hn : NodC 1048576 w cs n) (hsh : w.ShapedOpen Tryd.prog) (_hL : laidMetH Tryd.prog Rows.treePutsUptoRow.laid w) :
    Calls Tryd.prog 8 #[v, .agg cs.toArray] w fun e w' => e = .returned (.bool true) ∧ Below w.heap.size w w' := by
  have hcs : Value.agg cs.toArray = n.val := by rw [hn.1]; rfl
  rw [hcs]
  have HB0 := Lib.hid ((Below.refl w.heap.size w).alloc (Nat.le_refl _) (boxOf n))
  have HNB := Lib.hid (nodAt_box w n 48)
  have HM := Lib.hid ((maxOk_of w hsh).below HB0.out)
  have H := Lib.hid (nods_below (nods_more h).1 HB0.out)
  have hlen := (nods_more h).2.1
  have HD := Lib.hid (fun i hi => ((nods_more h).2.2 i hi).1)
  have HN := Lib.hid ((nod_more hn).2.below HB0.out)
  have hns := hn.2.path
  have hnd : n.data.length ≤ 140737488355328 := by obtain ⟨_, _, _, _, _, h6, _⟩ := hn.2.data; omega
  have HL1 := Lib.hid (treePut_len l n)
  have HPL := Lib.hid (fun (w : World) (hM : MaxOk w) (h : SliceC maxLen 12 (NodC maxLen) w [v] l) (hn : n.Ok maxLen w) => PutL_any v l n w hM h hn hns hnd)
  have HPR := Lib.hid (fun (w : World) (h : SliceC maxLen 12 (NodC maxLen) w [v] l) (hn : n.Ok maxLen w) => PutR_any v l n w h hn hns hnd)
  generalize treePut l n = p at *
  obtain ⟨fl, fe⟩ := p
  clear h hn hsh _hL hcs hns hnd
  go_enter Tryd.func8, Tryd.ntmps8
  go_wp2_with fail
  refine (CopyL_any _ l _ H.out (by omega) HD.out).mono ?_
  rintro e w1 ⟨v1, c1, rfl, ho, hc, hb⟩
  have HB1 := Lib.hid hb
  have HO1 := Lib.hid ho
  have HC1 := Lib.hid hc
  have HNB1 := Lib.hid (HNB.out.below hb)
  obtain ⟨m0, m1, m2, m3, m4, m5, m6, m7, m8, m9, m10, m11⟩ := HNB1.out.zero
  clear hb ho hc
  go_wp2_with fail
  refine (HPL.out _ (HM.out.below HB1.out) (nods_below H.out HB1.out) (HN.out.below HB1.out)).mono ?_
  rintro e w2 ⟨v2, c2, rfl, ho, hc, hb⟩
  have HB2 := Lib.hid (HB1.out.trans (hb.mono HB1.out.size))
  have HO2 := Lib.hid (HO1.out.below hb)
  have HP2 := Lib.hid ho
  have HC2 := Lib.hid hc
  have HNB2 := Lib.hid (HNB1.out.below hb)
  clear hb ho hc m0 m1 m2 m3 m4 m5 m6 m7 m8 m9 m10 m11
  go_wp2_with fail
  refine (CopyR_any _ l _ (nods_below H.out HB2.out) (by omega) HD.out).mono ?_
  rintro e w3 ⟨v3, c3, rfl, ho, hc, hb⟩
  have HB3 := Lib.hid (HB2.out.trans (hb.mono HB2.out.size))
  have HO3 := Lib.hid (HO2.out.below hb)
  have HP3 := Lib.hid (HP2.out.below hb)
  have HQ3 := Lib.hid ho
  have HNB3 := Lib.hid (HNB2.out.below hb)
  obtain ⟨m0, m1, m2, m3, m4, m5, m6, m7, m8, m9, m10, m11⟩ := HNB3.out.zero
  have HCC := Lib.hid (HC1.out.trans hc.symm)
  have HN1 := Lib.hid (show c1.length ≤ maxLen by rw [bare_len HC1.out]; unfold maxLen; omega)
  have HN3 := Lib.hid (show c3.length ≤ maxLen by rw [bare_len hc]; unfold maxLen; omega)
  clear hb ho hc
  go_wp2_with fail
  refine (HPR.out _ (nods_below H.out HB3.out) (HN.out.below HB3.out)).mono ?_
  rintro e w4 ⟨v4, c4, rfl, ho, hc, hb⟩
  have HB4 := Lib.hid (HB3.out.trans (hb.mono HB3.out.size))
  have HO4 := Lib.hid (HO3.out.below hb)
  have HP4 := Lib.hid (HP3.out.below hb)
  have HQ4 := Lib.hid (HQ3.out.below hb)
  have HR4 := Lib.hid ho
  have HCD := Lib.hid (HC2.out.trans hc.symm)
  have HN2 := Lib.hid (show c2.length ≤ maxLen by rw [bare_len HC2.out]; exact HL1.out)
  have HN4 := Lib.hid (show c4.length ≤ maxLen by rw [bare_len hc]; exact HL1.out)
  clear hb ho hc
  have q1 : (fe == fe) = true := by simp
  go_wp2_with fail
  refine (SameTree_eq _ _ c1 c3 _ HCC.out (HO4.out.slice HN1.out) (HQ4.out.slice HN3.out)).mono ?_
  rintro e w5 ⟨rfl, hb⟩
  have HB5 := Lib.hid (HB4.out.trans (hb.mono HB4.out.size))
  have HP5 := Lib.hid (HP4.out.below hb)
  have HR5 := Lib.hid (HR4.out.below hb)
  clear hb
  go_wp2_with fail
  refine (SameTree_eq _ _ c2 c4 _ HCD.out (HP5.out.slice HN2.out) (HR5.out.slice HN4.out)).mono ?_
  rintro e w6 ⟨rfl, hb⟩
  have HB6 := Lib.hid (HB5.out.trans (hb.mono HB5.out.size))
  clear hb
  go_wp2
  go_ret
  exact ⟨rfl, HB0.out.trans (HB6.out.mono HB0.out.size)⟩
end Go.Proofs.YtecmcgedeaemgaaDoor
