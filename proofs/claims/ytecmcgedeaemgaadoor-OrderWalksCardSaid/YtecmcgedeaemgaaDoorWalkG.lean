/-
  order.Walk, order.Depth and their references, walked.
-/
import Derived.Test.YtecmcgedeaemgaaDoorWalkL
namespace Go.Creel
set_option linter.unusedVariables false
set_option linter.unusedSimpArgs false
open Go.RowKit
noncomputable def orderWalk (l : List Nod) : List ByteArray × Int := if ¬ treeFault l = 0 then ([], treeFault l) else (l.map fun x => x.path, 0)
theorem orderWalk_bad {l : List Nod} (h : ¬ treeFault l = 0) : orderWalk l = ([], treeFault l) := by unfold orderWalk; rw [if_pos h]
theorem orderWalk_ok {l : List Nod} (h : treeFault l = 0) : orderWalk l = (l.map fun x => x.path, 0) := by unfold orderWalk; rw [if_neg (by simpa using h)]
def depthTo (l : List Nod) : Nat → Nat
  | 0 => 0
  | k + 1 => max (depthTo l k) (pathParts (nk l k).path).length
theorem depthTo_len {l : List Nod} (h : ∀ k, k < l.length → (nk l k).path.size ≤ 400) : ∀ k, k ≤ l.length → depthTo l k ≤ 401
  | 0, _ => by simp [depthTo]
  | k + 1, hk => by
    have h1 := depthTo_len h k (by omega)
    have h2 := h k (by omega)
    have h3 : (pathParts (nk l k).path).length ≤ 401 := by
      unfold pathParts
      split
      · simp
      · have := partsS_len 47 (nk l k).path; omega
    simp only [depthTo]; omega
noncomputable def orderDepth (l : List Nod) : Int × Int := if ¬ treeFault l = 0 then (0, treeFault l) else (((depthTo l l.length : Nat) : Int), 0)
theorem orderDepth_bad {l : List Nod} (h : ¬ treeFault l = 0) : orderDepth l = (0, treeFault l) := by unfold orderDepth; rw [if_pos h]
theorem orderDepth_ok {l : List Nod} (h : treeFault l = 0) : orderDepth l = (((depthTo l l.length : Nat) : Int), 0) := by unfold orderDepth; rw [if_neg (by simpa using h)]
theorem take_map {l : List Nod} {k : Nat} (h : k < l.length) : (l.take (k + 1)).map (fun x => x.path) = (l.take k).map (fun x => x.path) ++ [(nk l k).path] := by rw [take_nk h, List.map_append]; rfl
theorem src_one_at {P : Program} (w : World) {n : Nat} (hn : n = w.heap.size) (tx e' e : TypeId) (hk : P.underlying tx = some (.slice e')) (c : Value) (hc : c.oneCell' = true) : Src P 1 tx (.slice (some ⟨n, 0, none⟩) 1 1) 1 [c] (w.alloc (.cells #[c] e)) := by subst hn; exact src_one w tx e' e hk c hc
theorem walk_root {l : List Nod} (h : treeFault l = 0) : walkL l ⟨#[]⟩ = l.map fun x => x.path := walkL_root (treeP_iff.1 h)
end Go.Creel
namespace Go.Proofs.YtecmcgedeaemgaaDoor
set_option linter.unusedVariables false
set_option linter.unusedSimpArgs false
open Go.Creel Go.RowKit
set_option maxRecDepth 100000 in
set_option maxHeartbeats 1000000 in
theorem WalkG_any (v : Value) (l : List Nod) (w : World) (hM : MaxOk w) (h : SliceC maxLen 12 (NodC maxLen) w [v] l) :
    Calls Tryd.prog 39 #[v] w (RetSE 9 w (orderWalk l)) := by
  have HC := Lib.hid (TreeCheck_any v l w hM h)
  have HM := Lib.hid hM
  have H := Lib.hid h
  by_cases hE : treeFault l = 0
  · have HF := Lib.hid (orderWalk_ok hE)
    have HW := Lib.hid (fun w hM h => Walk_any v l hE 401 ⟨#[]⟩ (by omega) (.inl rfl) w hM h)
    rw [walk_root hE] at HW
    rw [hE] at HC
    clear hE hM h
    go_enter Tryd.func39, Tryd.ntmps39
    go_wp2_with fail
    refine HC.out.mono ?_
    rintro e w1 ⟨rfl, hb⟩
    have HB1 := Lib.hid hb
    clear hb
    go_wp2_with fail
    refine (HW.out _ (HM.out.below HB1.out) (nods_below H.out HB1.out)).mono ?_
    rintro e w2 ⟨v2, rfl, ho, hb⟩
    have HB2 := Lib.hid (HB1.out.trans (hb.mono HB1.out.size))
    have HO2 := Lib.hid (OwnSs.mono ho HB1.out.size)
    clear ho hb
    go_wp2
    go_ret2
    rw [HF.out]
    exact ⟨_, rfl, HO2.out, HB2.out⟩
  · have HF := Lib.hid (orderWalk_bad hE)
    generalize treeFault l = tf at *
    have hq : (tf == 0) = false := by rw [beq_eq_false_iff_ne]; exact hE
    clear hE hM h
    go_enter Tryd.func39, Tryd.ntmps39
    go_wp2_with fail
    refine HC.out.mono ?_
    rintro e w1 ⟨rfl, hb⟩
    have HB1 := Lib.hid hb
    clear hb
    go_wp2
    go_ret2
    rw [HF.out]
    exact ⟨_, rfl, World.ownsRow_nil _ _ _ 1, HB1.out⟩
set_option maxRecDepth 100000 in
set_option maxHeartbeats 1000000 in
theorem WalkR_ok (v : Value) (l : List Nod) (w : World) (h : SliceC maxLen 12 (NodC maxLen) w [v] l) (hE : treeFault l = 0) :
    Calls Tryd.prog 41 #[v] w (RetSE 9 w (orderWalk l)) := by
  obtain ⟨i0, hi, hz0, hz1, hz2⟩ := info_parts info_string
  have HI := Lib.hid (And.intro hi (And.intro hz0 (And.intro hz1 hz2)))
  have HC := Lib.hid (TreeFault_any v l w h)
  have HF := Lib.hid (orderWalk_ok hE)
  have hfew := (treeFault_all hE).1
  rw [hE] at HC
  have HNV := nods_cases h
  clear hE h hi hz0 hz1 hz2
  rcases HNV with ⟨a, cap, rfl, rfl, _⟩ | ⟨b, off, cap, rfl, h1, h2, h3, _, h4, h5⟩
  · go_enter Tryd.func41, Tryd.ntmps41
    go_wp2_with fail
    refine HC.out.mono ?_
    rintro e w2 ⟨rfl, hb⟩
    have HB2 := Lib.hid hb
    clear hb
    go_wp2
    go_loopw [5, 7, 15] (fun v5 _ i wr => v5 = .slice none 0 0 ∧ i = .int .i64 0 ∧ wr = w2) (fun _ _ _ _ => 0)
    case atStart => exact ⟨rfl, rfl, rfl⟩
    case round =>
      obtain ⟨rfl, rfl, hw⟩ := hrel
      rw [hw]
      go_wp2
      go_ret2
      rw [HF.out]
      exact ⟨_, rfl, World.ownsRow_nil _ _ _ 1, HB2.out⟩
  · have HNA := Lib.hid h4
    unfold maxLen at h3
    clear h4 h5
    go_enter Tryd.func41, Tryd.ntmps41
    go_wp2_with fail
    refine HC.out.mono ?_
    rintro e w2 ⟨rfl, hb⟩
    have HB2 := Lib.hid hb
    clear hb
    go_wp2
    go_loopw [5, 7, 15] (fun v5 _ i wr => ∃ (k : Nat) (vv : Value) (o : List ByteArray), k ≤ l.length ∧ i = .int .i64 k ∧ vv = v5 ∧ o.length = k ∧ Hid (o = (l.take k).map fun x => x.path) ∧ Hid (OwnSs 9 wr w2.heap.size vv o) ∧ Hid (Below w2.heap.size w2 wr)) (fun _ _ i _ => l.length - (intOf i).toNat)
    case atStart => exact ⟨0, _, [], by omega, rfl, rfl, rfl, Lib.hid rfl, Lib.hid (World.ownsRow_nil _ _ _ 1), Lib.hid (Below.refl _ _)⟩
    case round =>
      obtain ⟨k, vv, o, hk, rfl, rfl, hol, HOE, HOW, HB⟩ := hrel
      by_cases hlt : k < l.length
      · obtain ⟨c0, c1, c2, c3, c4, c5, c6, c7, c8, c9, c10, c11⟩ := (HNA.out.below (HB2.out.trans (HB.out.mono HB2.out.size))) k hlt
        have HNX := Lib.hid (take_map hlt)
        rw [← HOE.out] at HNX
        clear HOE
        generalize nk l k = x at *
        have HBX := Lib.hid ((HB.out.alloc HB.out.size (boxOf x)).alloc (HB.out.alloc HB.out.size (boxOf x)).size (.cells #[.string x.path] 9))
        have HO1 := Lib.hid (HOW.out.below (((Below.refl wr.heap.size wr).alloc (Nat.le_refl _) (boxOf x)).alloc (by simp) (.cells #[.string x.path] 9)))
        go_wp2_with (at_builtin; refine wpList_app _ rfl (.tmp 19) (.tmp 22) 56 56 rfl _ _ rfl rfl (n := o.length) (fun ty => app_src _ _ _ _ w2.heap.size 9 i0 (.string ByteArray.empty) 1 16 Tryd.underlying56 HI.out.1 HI.out.2.1 HI.out.2.2.1 HI.out.2.2.2 rfl (by decide) _ _ _ _ _ _ HO1.out (src_one_at (wr.alloc (boxOf x)) (show wr.heap.size + 1 = _ by simp) _ _ _ Tryd.underlying56 _ rfl) (by unfold maxLen; omega) (by omega) HBX.out.size) ?_; intro v1 w3 ho hg _; have HZ := Lib.hid (And.intro ho hg); clear ho hg)
        have HO3 := Lib.hid (OwnSs.app (m := [x.path]) HZ.out.1)
        have HB3 := Lib.hid (below_app HBX.out HZ.out.2 HO1.out HBX.out.size)
        go_wp2
        go_roundw
        case rel => exact ⟨k + 1, _, _, by omega, by go_num, rfl, by simp [hol], Lib.hid HNX.out.symm, HO3, HB3⟩
        case measure => simp [intOf]; omega
      · obtain rfl : k = l.length := by omega
        have HOE2 := HOE
        rw [List.take_length] at HOE2
        go_wp2
        go_ret2
        rw [HF.out, ← HOE2.out]
        exact ⟨_, rfl, OwnSs.mono HOW.out HB2.out.size, HB2.out.trans (HB.out.mono HB2.out.size)⟩
theorem WalkR_any (v : Value) (l : List Nod) (w : World) (h : SliceC maxLen 12 (NodC maxLen) w [v] l) :
    Calls Tryd.prog 41 #[v] w (RetSE 9 w (orderWalk l)) := by
  by_cases hE : treeFault l = 0
  · exact WalkR_ok v l w h hE
  · have HC := Lib.hid (TreeFault_any v l w h)
    have HF := Lib.hid (orderWalk_bad hE)
    generalize treeFault l = tf at *
    have hq : (tf == 0) = false := by rw [beq_eq_false_iff_ne]; exact hE
    clear hE h
    go_enter Tryd.func41, Tryd.ntmps41
    go_wp2_with fail
    refine HC.out.mono ?_
    rintro e w1 ⟨rfl, hb⟩
    have HB1 := Lib.hid hb
    clear hb
    go_wp2
    go_ret2
    rw [HF.out]
    exact ⟨_, rfl, World.ownsRow_nil _ _ _ 1, HB1.out⟩
end Go.Proofs.YtecmcgedeaemgaaDoor
