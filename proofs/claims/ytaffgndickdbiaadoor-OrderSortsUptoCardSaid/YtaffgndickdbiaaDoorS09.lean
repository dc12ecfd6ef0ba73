/-
  Texts: OrderSortsW.
-/
import Derived.Test.YtaffgndickdbiaaDoorS08
set_option linter.unusedVariables false
set_option linter.unusedSimpArgs false
set_option linter.unusedSectionVars false
namespace Go.Creel
open Go.RowKit
theorem sliceC_moreO {α : Type} {N M n : Nat} {E F : World → List Value → α → Prop} {w : World} {cs : List Value} {l : List α} (h : SliceC N n E w cs l) (hN : N ≤ M) (hE : ∀ c a, E w c a → F w c a) : SliceC M n F w cs l := by
  obtain ⟨a, cap, h0, h1, h2, h3, h4, h5⟩ := h
  refine ⟨a, cap, h0, h1, h2, Nat.le_trans h3 hN, h4, fun hp => ?_⟩
  obtain ⟨b, off, e, hc⟩ := h5 hp
  refine ⟨b, off, e, fun i hi => ?_⟩
  obtain ⟨c, hl, hcc, he⟩ := hc i hi
  exact ⟨c, hl, hcc, hE _ _ he⟩
theorem nod_moreO {w : World} {cs : List Value} {x : Nod} (h : NodC 1048576 w cs x) : NodC maxLen w cs x := by
  have hm : (1048576 : Nat) ≤ maxLen := by unfold maxLen; omega
  obtain ⟨h0, h1⟩ := h
  exact ⟨h0, Nat.le_trans h1.path hm, h1.kind, h1.same, Nat.le_trans h1.target hm, ⟨h1.mt.mode, h1.mt.uid, h1.mt.gid, Nat.le_trans h1.mt.user hm, Nat.le_trans h1.mt.group hm, h1.mt.second, h1.mt.nano⟩, sliceC_moreO h1.data hm (fun _ _ h => h)⟩
theorem nods_moreO {w : World} {v : Value} {l : List Nod} (h : SliceC 1048576 12 (NodC 1048576) w [v] l) : SliceC maxLen 12 (NodC maxLen) w [v] l ∧ l.length ≤ 1048576 ∧ ∀ i, i < l.length → (nk l i).data.length ≤ 140737488355328 ∧ (nk l i).path.size ≤ 1048576 := by
  refine ⟨sliceC_moreO h (by unfold maxLen; omega) (fun _ _ => nod_moreO), ?_, fun i hi => ?_⟩
  · obtain ⟨_, _, _, _, _, h3, _⟩ := h; exact h3
  · obtain ⟨_, _, _, _, _, h3, _, h5⟩ := h
    obtain ⟨b, off, e, hc⟩ := h5 (by omega)
    obtain ⟨c, hl, hcc, he⟩ := hc i hi
    rw [nk_eq hi]
    obtain ⟨_, _, _, _, _, h6, _⟩ := he.2.data
    exact ⟨by omega, he.2.path⟩
theorem insN_map (out : List Nod) (n : Nod) : (insN out n).map Nod.bare = insN (out.map Nod.bare) n.bare := by
  unfold insN
  rw [List.map_append, List.map_cons, List.takeWhile_map, List.dropWhile_map]
  rfl
theorem foldl_map : ∀ (l acc : List Nod), (l.foldl insN acc).map Nod.bare = (l.map Nod.bare).foldl insN (acc.map Nod.bare)
  | [], acc => rfl
  | n :: l, acc => by rw [List.foldl_cons, foldl_map l, insN_map, List.map_cons, List.foldl_cons]
theorem isort_bare {l m : List Nod} (h : l.map Nod.bare = m.map Nod.bare) : (isort l).map Nod.bare = (isort m).map Nod.bare := by
  unfold isort
  rw [foldl_map, foldl_map, h]
theorem pathsOk_bare {l m : List Nod} (h : l.map Nod.bare = m.map Nod.bare) (hm : ∀ i, i < m.length → (nk m i).path.size ≤ 1048576) : PathsOk l := by
  intro x hx
  obtain ⟨k, hk, rfl⟩ := mem_nk hx
  have hl := bare_len h
  rw [(bare_parts (bare_nk h hk)).1]
  exact hm k (by omega)
end Go.Creel
namespace Go.Proofs.YtaffgndickdbiaaDoor
open Go.Creel Go.RowKit
set_option maxRecDepth 100000 in
set_option maxHeartbeats 2000000 in
theorem SortL_any (v : Value) (l : List Nod) (w : World) (hM : MaxOk w) (h : SliceC maxLen 12 (NodC maxLen) w [v] l) (hfew : l.length ≤ 8000000000) (hdat : ∀ i, i < l.length → (nk l i).data.length ≤ 140737488355328) (hps : ∀ i, i < l.length → (nk l i).path.size ≤ 1048576) :
    Calls Tryd.prog 14 #[v] w (RetT 60 w (isort l)) := by
  have HC := Lib.hid (CopyL_any v l w h hfew hdat)
  have HM := Lib.hid hM
  have HPS := Lib.hid (fun (c : List Nod) (h : c.map Nod.bare = l.map Nod.bare) => pathsOk_bare h hps)
  clear hM h hdat hps
  go_enter Tryd.func14, Tryd.ntmps14
  go_wp2_with fail
  refine HC.out.mono ?_
  rintro e w1 ⟨v1, c, rfl, ho, hc, hb⟩
  have HS := Lib.hid (SortStable_any w v1 c w1 ho (by rw [bare_len hc]; exact hfew) (HPS.out c hc) HM.out hb)
  have HBR := Lib.hid (isort_bare hc)
  clear ho hc hb HC HPS hfew
  go_wp2_with fail
  refine HS.out.mono ?_
  rintro e w2 ⟨rfl, ho, hb⟩
  have HO2 := Lib.hid ho
  have HB2 := Lib.hid hb
  clear ho hb
  go_wp2
  go_ret
  exact ⟨_, _, rfl, HO2.out, HBR.out, HB2.out⟩
set_option maxRecDepth 100000 in
set_option maxHeartbeats 1000000 in
theorem orderSorts_walk (w : World) (v : Value) (l : List Nod) (h : SliceC 1048576 12 (NodC 1048576) w [v] l) (hsh : w.ShapedOpen Tryd.prog) (_hL : laidMetH Tryd.prog Rows.orderSortsUptoRow.laid w) :
    Calls Tryd.prog 5 #[v] w fun e w' => e = .returned (.bool true) ∧ Below w.heap.size w w' := by
  have HM := Lib.hid (maxOk_of w hsh)
  obtain ⟨hw, hlen, hdp⟩ := nods_moreO h
  have H1 := Lib.hid (SortL_any v l w HM.out hw (by omega) (fun i hi => (hdp i hi).1) (fun i hi => (hdp i hi).2))
  have H2 := Lib.hid (fun W (hb : Below w.heap.size w W) => IsortR_any v l W (nods_below hw hb) (by omega) (fun i hi => (hdp i hi).1) (fun i hi => (hdp i hi).2))
  have HLN := Lib.hid (show (isort l).length ≤ maxLen by rw [isort_len]; exact Nat.le_trans hlen (by unfold maxLen; omega))
  generalize isort l = s at *
  clear h hsh _hL hw hlen hdp
  go_enter Tryd.func5, Tryd.ntmps5
  go_wp2_with fail
  refine H1.out.mono ?_
  rintro e w1 ⟨v1, c1, rfl, ho, hc, hb⟩
  have HB1 := Lib.hid hb
  have HO1 := Lib.hid ho
  have HC1 := Lib.hid hc
  clear ho hc hb
  go_wp2_with fail
  refine (H2.out _ HB1.out).mono ?_
  rintro e w2 ⟨v2, c2, rfl, ho, hc, hb⟩
  have HB2 := Lib.hid (HB1.out.trans (hb.mono HB1.out.size))
  have HO2 := Lib.hid (HO1.out.below hb)
  have HP2 := Lib.hid ho
  have HCC := Lib.hid (HC1.out.trans hc.symm)
  have HN1 := Lib.hid (show c1.length ≤ maxLen by rw [bare_len HC1.out]; exact HLN.out)
  have HN2 := Lib.hid (show c2.length ≤ maxLen by rw [bare_len hc]; exact HLN.out)
  clear hb ho hc
  go_wp2_with fail
  refine (SameTree_eq _ _ c1 c2 _ HCC.out (HO2.out.slice HN1.out) (HP2.out.slice HN2.out)).mono ?_
  rintro e w3 ⟨rfl, hb⟩
  have HB3 := Lib.hid (HB2.out.trans (hb.mono HB2.out.size))
  clear hb
  go_wp2
  go_ret
  exact ⟨rfl, HB3.out⟩
end Go.Proofs.YtaffgndickdbiaaDoor
