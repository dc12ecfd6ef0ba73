/-
  creelref.TreePut, walked.
-/
import Derived.Test.YtecmcgedeaemgaaDoorPutG
import Derived.Test.YtecmcgedeaemgaaDoorCopyR
namespace Go.Creel
set_option linter.unusedVariables false
set_option linter.unusedSimpArgs false
open Go.RowKit
/-- one node more -/
def putStep (n : Nod) (p : List Nod × Bool) (x : Nod) : List Nod × Bool :=
  ((if 0 ≤ ordTo n.path x ∧ p.2 = false then p.1 ++ [n] else p.1) ++ (if ordTo n.path x = 0 then [] else [x]), p.2 || decide (0 ≤ ordTo n.path x))
def putTo (l : List Nod) (n : Nod) (k : Nat) : List Nod × Bool := (l.take k).foldl (putStep n) ([], false)
theorem putTo_succ {l : List Nod} {n : Nod} {k : Nat} (h : k < l.length) : putTo l n (k + 1) = putStep n (putTo l n k) (nk l k) := by
  unfold putTo
  rw [take_nk h, List.foldl_append]; rfl
theorem step_less {n x : Nod} {o : List Nod} {d : Bool} (h : ordTo n.path x = -1) : putStep n (o, d) x = (o ++ [x], d) := by unfold putStep; cases d <;> simp [h]
theorem step_same_f {n x : Nod} {o : List Nod} (h : ordTo n.path x = 0) : putStep n (o, false) x = (o ++ [n], true) := by unfold putStep; simp [h]
theorem step_same_t {n x : Nod} {o : List Nod} (h : ordTo n.path x = 0) : putStep n (o, true) x = (o, true) := by unfold putStep; simp [h]
theorem step_more_f {n x : Nod} {o : List Nod} (h : ordTo n.path x = 1) : putStep n (o, false) x = (o ++ [n] ++ [x], true) := by unfold putStep; simp [h]
theorem step_more_t {n x : Nod} {o : List Nod} (h : ordTo n.path x = 1) : putStep n (o, true) x = (o ++ [x], true) := by unfold putStep; simp [h]
theorem putStep_len (n : Nod) (p : List Nod × Bool) (x : Nod) (k : Nat) (h : p.1.length ≤ k + (if p.2 = true then 1 else 0)) : (putStep n p x).1.length ≤ k + 1 + (if (putStep n p x).2 = true then 1 else 0) := by
  obtain ⟨o, d⟩ := p
  rcases ordTo_range n.path x with e | e | e
  · rw [step_less e]; cases d <;> simp at h ⊢ <;> omega
  · cases d
    · rw [step_same_f e]; simp at h ⊢; omega
    · rw [step_same_t e]; simp at h ⊢; omega
  · cases d
    · rw [step_more_f e]; simp at h ⊢; omega
    · rw [step_more_t e]; simp at h ⊢; omega
theorem putTo_len (l : List Nod) (n : Nod) : ∀ k, k ≤ l.length → (putTo l n k).1.length ≤ k + (if (putTo l n k).2 = true then 1 else 0)
  | 0, _ => by simp [putTo]
  | k + 1, h => by rw [putTo_succ (by omega)]; exact putStep_len n _ _ k (putTo_len l n k (by omega))
theorem fold_true (n : Nod) : ∀ (l : List Nod) (o : List Nod), l.foldl (putStep n) (o, true) = (o ++ l.filter (isOther n.path), true)
  | [], o => by simp
  | x :: l, o => by
    rw [List.foldl_cons]
    have e : putStep n (o, true) x = (o ++ (if ordTo n.path x = 0 then [] else [x]), true) := by unfold putStep; simp
    rw [e, fold_true n l]
    by_cases h : ordTo n.path x = 0
    · rw [if_pos h, List.filter_cons_of_neg (by unfold isOther; simp [h]), List.append_nil]
    · rw [if_neg h, List.filter_cons_of_pos (by unfold isOther; simp [h]), List.append_assoc]; rfl
theorem fold_false (n : Nod) : ∀ (l : List Nod) (o : List Nod), (l.foldl (putStep n) (o, false)).2 = true ∧ (l.foldl (putStep n) (o, false)).1 = o ++ putL l n ∨
    (l.foldl (putStep n) (o, false)).2 = false ∧ (l.foldl (putStep n) (o, false)).1 ++ [n] = o ++ putL l n
  | [], o => .inr ⟨rfl, by simp [putL]⟩
  | x :: l, o => by
    rw [List.foldl_cons]
    by_cases hb : ordTo n.path x = -1
    · have e : putStep n (o, false) x = (o ++ [x], false) := by unfold putStep; simp [hb]
      have hp : putL (x :: l) n = x :: putL l n := by
        unfold putL
        rw [List.takeWhile_cons_of_pos (by unfold isBefore; simp [hb]), List.dropWhile_cons_of_pos (by unfold isBefore; simp [hb])]; rfl
      rw [e, hp]
      rcases fold_false n l (o ++ [x]) with ⟨h1, h2⟩ | ⟨h1, h2⟩
      · exact .inl ⟨h1, by rw [h2, List.append_assoc]; rfl⟩
      · exact .inr ⟨h1, by rw [h2, List.append_assoc]; rfl⟩
    · have h0 : 0 ≤ ordTo n.path x := by rcases ordTo_range n.path x with h | h | h <;> omega
      have hp : putL (x :: l) n = n :: ((x :: l).filter (isOther n.path)) := by
        unfold putL
        rw [List.takeWhile_cons_of_neg (by unfold isBefore; simp [hb]), List.dropWhile_cons_of_neg (by unfold isBefore; simp [hb])]; rfl
      have e : putStep n (o, false) x = ((o ++ [n]) ++ (if ordTo n.path x = 0 then [] else [x]), true) := by unfold putStep; simp [h0]
      rw [e, fold_true, hp]
      refine .inl ⟨rfl, ?_⟩
      by_cases h : ordTo n.path x = 0
      · rw [if_pos h, List.filter_cons_of_neg (by unfold isOther; simp [h]), List.append_nil, List.append_assoc]; rfl
      · rw [if_neg h, List.filter_cons_of_pos (by unfold isOther; simp [h]), List.append_assoc, List.append_assoc]; rfl
theorem putTo_all (l : List Nod) (n : Nod) : (putTo l n l.length).2 = true ∧ (putTo l n l.length).1 = putL l n ∨ (putTo l n l.length).2 = false ∧ (putTo l n l.length).1 ++ [n] = putL l n := by
  have := fold_false n l []
  unfold putTo
  rw [List.take_length]
  simpa using this
theorem NodAt.grown {w w' : World} {b o : Nat} {x : Nod} {row : Option Nat} (h : NodAt w b o x) (hg : w.grownBy w' row) (hne : row ≠ some b) : NodAt w' b o x := by
  have c : ∀ i u, w.cell? ⟨b, i, none⟩ = some u → w'.cell? ⟨b, i, none⟩ = some u := fun i u hu => hg.cell hu (fun e => hne e.symm)
  obtain ⟨h0, h1, h2, h3, h4, h5, h6, h7, h8, h9, h10, h11⟩ := h
  exact ⟨c _ _ h0, c _ _ h1, c _ _ h2, c _ _ h3, c _ _ h4, c _ _ h5, c _ _ h6, c _ _ h7, c _ _ h8, c _ _ h9, c _ _ h10, c _ _ h11⟩
theorem putL_dat {l : List Nod} {n : Nod} (h : ∀ x ∈ l, x.data.length ≤ 140737488355328) (hn : n.data.length ≤ 140737488355328) : ∀ x ∈ putL l n, x.data.length ≤ 140737488355328 := by
  intro x hx
  unfold putL at hx
  rcases List.mem_append.1 hx with h1 | h1
  · exact h x ((List.takeWhile_sublist _).mem h1)
  · rcases List.mem_cons.1 h1 with rfl | h2
    · exact hn
    · exact h x ((List.dropWhile_sublist _).mem (List.mem_filter.1 h2).1)
end Go.Creel
namespace Go.Proofs.YtecmcgedeaemgaaDoor
set_option linter.unusedVariables false
set_option linter.unusedSimpArgs false
open Go.Creel Go.RowKit
set_option maxRecDepth 100000 in
set_option maxHeartbeats 4000000 in
theorem PutR_at (b off cap : Nat) (l : List Nod) (n : Nod) (w : World) (hpos : 0 < l.length) (hle : l.length ≤ cap) (hm : cap ≤ maxLen) (hc : NodsAt w b off l) (hok : ∀ i, i < l.length → (nk l i).Ok maxLen w) (h : SliceC maxLen 12 (NodC maxLen) w [.slice (some ⟨b, off, none⟩) l.length cap] l)
    (hn : n.Ok maxLen w) (hns : n.path.size ≤ 1048576) (hnd : n.data.length ≤ 140737488355328) (hE : treeFault l = 0) :
    Calls Tryd.prog 35 #[.slice (some ⟨b, off, none⟩) l.length cap, n.val] w (RetTE 48 w (treePut l n)) := by
  obtain ⟨i0, hi, hz0, hz1, hz2⟩ := info_parts info_node
  have HI := Lib.hid (And.intro hi (And.intro hz0 (And.intro hz1 hz2)))
  have HBX := Lib.hid ((Below.refl w.heap.size w).alloc (Nat.le_refl _) (boxOf n))
  have HNB := Lib.hid (nodAt_box w n 48)
  have HC := Lib.hid (hc.below HBX.out)
  have HK := Lib.hid (fun i hi => (hok i hi).below HBX.out)
  have HN := Lib.hid hn
  have HKW := Lib.hid hok
  unfold maxLen at hm
  have hfew := (treeFault_all hE).1
  have HDT := Lib.hid (dat_list (treeFault_dat hE))
  have HND := Lib.hid hnd
  have HCK := Lib.hid (TreeFault_any _ l _ (nods_below h HBX.out))
  rw [hE] at HCK
  have HPO := Lib.hid (fun k (hk : k < l.length) w => PathOrder_any (nk l k).path n.path w (Nat.le_trans (nodFault_size ((treeFault_all hE).2 k hk)) (by omega)) hns)
  have HALL := Lib.hid (putTo_all l n)
  have HSUC := Lib.hid (fun k hk => putTo_succ (l := l) (n := n) (k := k) hk)
  have HLEN := Lib.hid (fun k hk => putTo_len l n k hk)
  have HT1 := Lib.hid (fun h => treePut_new (n := n) hE h)
  have HT2 := Lib.hid (fun h => treePut_ok (n := n) hE h)
  clear h hc hok hn hns hE hi hz0 hz1 hz2 hnd
  go_enter Tryd.func35, Tryd.ntmps35
  go_wp2_with fail
  refine HCK.out.mono ?_
  rintro e w1 ⟨rfl, hb⟩
  have HB1 := Lib.hid (HBX.out.trans (hb.mono (by simp)))
  have HC1 := Lib.hid (HC.out.below hb)
  have HNB1 := Lib.hid (HNB.out.below hb)
  have HK1 := Lib.hid (fun i (hi : i < l.length) => (HKW.out i hi).below HB1.out)
  have HN1 := Lib.hid (HN.out.below HB1.out)
  clear hb
  go_wp2
  go_loopw [7, 8, 10, 11, 20] (fun v7 v8 _ _ i wr => ∃ (k : Nat) (vv : Value) (o : List Nod) (d : Bool), k ≤ l.length ∧ i = .int .i64 k ∧ vv = v7 ∧ v8 = .bool d ∧ Hid ((o, d) = putTo l n k) ∧ Hid (OwnNods 48 wr w1.heap.size vv o) ∧ Hid (Below w1.heap.size w1 wr)) (fun _ _ _ _ i _ => l.length - (intOf i).toNat)
  case atStart => exact ⟨0, _, [], false, by omega, rfl, rfl, rfl, Lib.hid rfl, Lib.hid (OwnNods.nil _ _ _), Lib.hid (Below.refl _ _)⟩
  case round =>
    obtain ⟨k, vv, o, d, hk, rfl, rfl, rfl, HP, HOW, HB⟩ := hrel
    have HNB2 := Lib.hid (HNB1.out.below HB.out)
    have HWR := Lib.hid (HB1.out.trans (HB.out.mono HB1.out.size))
    have hol : o.length ≤ k + 1 := by
      have := HLEN.out k hk
      rw [← HP.out] at this
      cases d <;> simp at this <;> omega
    by_cases hlt : k < l.length
    · obtain ⟨h0, h1, h2, h3, h4, h5, h6, h7, h8, h9, h10, h11⟩ := (HC1.out.below HB.out) k hlt
      have HKX := Lib.hid (HK1.out k hlt)
      have HXW := Lib.hid (show wr.heap.size = wr.heap.size from rfl)
      have HST := Lib.hid (show putTo l n (k + 1) = putStep n (o, d) (nk l k) by rw [HSUC.out k hlt, HP.out])
      have HCALL := Lib.hid (HPO.out k hlt)
      have HRG := Lib.hid (ordTo_range n.path (nk l k))
      have HSL := Lib.hid (fun d h => step_less (n := n) (x := nk l k) (o := o) (d := d) h)
      have HSF := Lib.hid (fun h => step_same_f (n := n) (x := nk l k) (o := o) h)
      have HSS := Lib.hid (fun h => step_same_t (n := n) (x := nk l k) (o := o) h)
      have HMF := Lib.hid (fun h => step_more_f (n := n) (x := nk l k) (o := o) h)
      have HMT := Lib.hid (fun h => step_more_t (n := n) (x := nk l k) (o := o) h)
      rw [show ordP (pathParts (nk l k).path) (pathParts n.path) = ordTo n.path (nk l k) from rfl] at HCALL
      generalize nk l k = x at *
      generalize ordTo n.path x = c at *
      have HBB := Lib.hid ((Below.refl wr.heap.size wr).alloc (Nat.le_refl _) (boxOf x))
      have HXZ := Lib.hid (nodAt_box wr x 48)
      obtain ⟨n0, _⟩ := (HNB2.out.below HBB.out).zero
      go_wp2_with fail
      refine (HCALL.out _).mono ?_
      rintro e w3 ⟨rfl, hb⟩
      have HB3 := Lib.hid (HBB.out.trans (hb.mono HBB.out.size))
      have HW3 := Lib.hid (HWR.out.trans (HB3.out.mono HWR.out.size))
      have HO3 := Lib.hid (HOW.out.below HB3.out)
      have HX3 := Lib.hid (HXZ.out.below hb)
      have HN3 := Lib.hid (HNB2.out.below HB3.out)
      have HR3 := Lib.hid (HB.out.trans (HB3.out.mono HB.out.size))
      clear hb n0
      obtain ⟨c0, c1, c2, c3, c4, c5, c6, c7, c8, c9, c10, c11⟩ := HX3.out.zero
      obtain ⟨m0, m1, m2, m3, m4, m5, m6, m7, m8, m9, m10, m11⟩ := HN3.out.zero
      have HXA := Lib.hid (HR3.out.alloc HR3.out.size (boxOf x))
      have HXO := Lib.hid (HO3.out.below ((Below.refl w3.heap.size w3).alloc (Nat.le_refl _) (boxOf x)))
      have HXN := Lib.hid (nodIn_arg HKX.out HXA.out HOW.out)
      have HNA := Lib.hid (HR3.out.alloc HR3.out.size (boxOf n))
      have HNO := Lib.hid (HO3.out.below ((Below.refl w3.heap.size w3).alloc (Nat.le_refl _) (boxOf n)))
      have HNN := Lib.hid (nodIn_arg HN1.out HNA.out HOW.out)
      rcases HRG.out with rfl | rfl | rfl
      · have HE := Lib.hid (HST.out.trans (HSL.out d rfl))
        clear HSL HSF HSS HMF HMT HRG
        go_wp2_with (at_builtin; refine wpList_app _ rfl (.tmp 41) (.tmp 43) 40 40 rfl _ _ rfl rfl (fun ty => app_src _ 40 40 ty w1.heap.size 48 i0 _ 12 144 Tryd.underlying40 HI.out.1 HI.out.2.1 HI.out.2.2.1 HI.out.2.2.2 rfl (by decide) _ _ o.length 1 _ _ HXO.out.1 (src_nod w3 _ _ _ Tryd.underlying40 x) (by unfold maxLen; omega) (by omega) HXA.out.size) ?_; intro v5 w5 ho2 hg2 hv2; have HZ := Lib.hid (And.intro ho2 (And.intro hg2 hv2.2)); clear ho2 hg2 hv2)
        have HO5 := Lib.hid (HXO.out.app (m := [x]) (fun y hy => by rw [List.mem_singleton.1 hy]; exact HXN.out) HZ.out.1 HZ.out.2.1 HZ.out.2.2)
        have HB5 := Lib.hid (below_app HXA.out HZ.out.2.1 HXO.out.1 HXA.out.size)
        go_wp2
        go_roundw
        case rel => exact ⟨k + 1, _, _, d, by omega, by go_num, rfl, rfl, Lib.hid HE.out.symm, HO5, HB5⟩
        case measure => simp [intOf]; omega
      · cases d with
        | true =>
          have HE := Lib.hid (HST.out.trans (HSS.out rfl))
          clear HSL HSF HSS HMF HMT HRG
          go_wp2
          go_roundw
          case rel => exact ⟨k + 1, _, _, true, by omega, by go_num, rfl, rfl, Lib.hid HE.out.symm, HO3, HR3⟩
          case measure => simp [intOf]; omega
        | false =>
          have HE := Lib.hid (HST.out.trans (HSF.out rfl))
          clear HSL HSF HSS HMF HMT HRG
          go_wp2_with (at_builtin; refine wpList_app _ rfl (.tmp 35) (.tmp 37) 40 40 rfl _ _ rfl rfl (fun ty => app_src _ 40 40 ty w1.heap.size 48 i0 _ 12 144 Tryd.underlying40 HI.out.1 HI.out.2.1 HI.out.2.2.1 HI.out.2.2.2 rfl (by decide) _ _ o.length 1 _ _ HNO.out.1 (src_nod w3 _ _ _ Tryd.underlying40 n) (by unfold maxLen; omega) (by omega) HNA.out.size) ?_; intro v5 w5 ho2 hg2 hv2; have HZ := Lib.hid (And.intro ho2 (And.intro hg2 hv2.2)); clear ho2 hg2 hv2)
          have HO5 := Lib.hid (HNO.out.app (m := [n]) (fun y hy => by rw [List.mem_singleton.1 hy]; exact HNN.out) HZ.out.1 HZ.out.2.1 HZ.out.2.2)
          have HB5 := Lib.hid (below_app HNA.out HZ.out.2.1 HNO.out.1 HNA.out.size)
          go_wp2
          go_roundw
          case rel => exact ⟨k + 1, _, _, true, by omega, by go_num, rfl, rfl, Lib.hid HE.out.symm, HO5, HB5⟩
          case measure => simp [intOf]; omega
      · cases d with
        | true =>
          have HE := Lib.hid (HST.out.trans (HMT.out rfl))
          clear HSL HSF HSS HMF HMT HRG
          go_wp2_with (at_builtin; refine wpList_app _ rfl (.tmp 41) (.tmp 43) 40 40 rfl _ _ rfl rfl (fun ty => app_src _ 40 40 ty w1.heap.size 48 i0 _ 12 144 Tryd.underlying40 HI.out.1 HI.out.2.1 HI.out.2.2.1 HI.out.2.2.2 rfl (by decide) _ _ o.length 1 _ _ HXO.out.1 (src_nod w3 _ _ _ Tryd.underlying40 x) (by unfold maxLen; omega) (by omega) HXA.out.size) ?_; intro v5 w5 ho2 hg2 hv2; have HZ := Lib.hid (And.intro ho2 (And.intro hg2 hv2.2)); clear ho2 hg2 hv2)
          have HO5 := Lib.hid (HXO.out.app (m := [x]) (fun y hy => by rw [List.mem_singleton.1 hy]; exact HXN.out) HZ.out.1 HZ.out.2.1 HZ.out.2.2)
          have HB5 := Lib.hid (below_app HXA.out HZ.out.2.1 HXO.out.1 HXA.out.size)
          go_wp2
          go_roundw
          case rel => exact ⟨k + 1, _, _, true, by omega, by go_num, rfl, rfl, Lib.hid HE.out.symm, HO5, HB5⟩
          case measure => simp [intOf]; omega
        | false =>
          have HE := Lib.hid (HST.out.trans (HMF.out rfl))
          clear HSL HSF HSS HMF HMT HRG
          go_upto_region 14 with (at_builtin; refine wpList_app _ rfl (.tmp 35) (.tmp 37) 40 40 rfl _ _ rfl rfl (fun ty => app_src _ 40 40 ty w1.heap.size 48 i0 _ 12 144 Tryd.underlying40 HI.out.1 HI.out.2.1 HI.out.2.2.1 HI.out.2.2.2 rfl (by decide) _ _ o.length 1 _ _ HNO.out.1 (src_nod w3 _ _ _ Tryd.underlying40 n) (by unfold maxLen; omega) (by omega) HNA.out.size) ?_; intro v5 w5 ho2 hg2 hv2; have HZ := Lib.hid (And.intro ho2 (And.intro hg2 hv2.2)); clear ho2 hg2 hv2)
          have HO5 := Lib.hid (HNO.out.app (m := [n]) (fun y hy => by rw [List.mem_singleton.1 hy]; exact HNN.out) HZ.out.1 HZ.out.2.1 HZ.out.2.2)
          have HB5 := Lib.hid (below_app HNA.out HZ.out.2.1 HNO.out.1 HNA.out.size)
          have HX5 := Lib.hid ((HX3.out.below ((Below.refl w3.heap.size w3).alloc (Nat.le_refl _) (boxOf n))).grown HZ.out.2.1 (fun e => by have := HOW.out.blk _ e; omega))
          obtain ⟨c0, c1, c2, c3, c4, c5, c6, c7, c8, c9, c10, c11⟩ := HX5.out.zero
          have HXA5 := Lib.hid (HB5.out.alloc HB5.out.size (boxOf x))
          have HXO5 := Lib.hid (HO5.out.below ((Below.refl w5.heap.size w5).alloc (Nat.le_refl _) (boxOf x)))
          have HXN5 := Lib.hid (nodIn_arg HKX.out HXA5.out HO5.out)
          go_wp2_with (at_builtin; refine wpList_app _ rfl (.tmp 41) (.tmp 43) 40 40 rfl _ _ rfl rfl (fun ty => app_src _ 40 40 ty w1.heap.size 48 i0 _ 12 144 Tryd.underlying40 HI.out.1 HI.out.2.1 HI.out.2.2.1 HI.out.2.2.2 rfl (by decide) _ _ (o ++ [n]).length 1 _ _ HXO5.out.1 (src_nod w5 _ _ _ Tryd.underlying40 x) (by rw [List.length_append, List.length_singleton]; unfold maxLen; omega) (by rw [List.length_append, List.length_singleton]; omega) HXA5.out.size) ?_; intro v6 w6 ho2 hg2 hv2; have HZ6 := Lib.hid (And.intro ho2 (And.intro hg2 hv2.2)); clear ho2 hg2 hv2)
          have HO6 := Lib.hid (HXO5.out.app (m := [x]) (fun y hy => by rw [List.mem_singleton.1 hy]; exact HXN5.out) HZ6.out.1 HZ6.out.2.1 HZ6.out.2.2)
          have HB6 := Lib.hid (below_app HXA5.out HZ6.out.2.1 HXO5.out.1 HXA5.out.size)
          go_wp2
          go_roundw
          case rel => exact ⟨k + 1, _, _, true, by omega, by go_num, rfl, rfl, Lib.hid HE.out.symm, HO6, HB6⟩
          case measure => simp [intOf]; omega
    · obtain rfl : k = l.length := by omega
      have HA := Lib.hid HALL.out
      rw [← HP.out] at HA
      have hputl := putL_len l n
      obtain ⟨m0, m1, m2, m3, m4, m5, m6, m7, m8, m9, m10, m11⟩ := HNB2.out.zero
      cases d with
      | true =>
        have HPL := Lib.hid (show o = putL l n from by rcases HA.out with h | h; exact h.2; exact absurd h.1 (by simp))
        have HSL := Lib.hid (HOW.out.slice (by rw [HPL.out]; unfold maxLen; omega))
        have HCK2 := Lib.hid (TreeFault_any _ _ _ HSL.out)
        rw [HPL.out] at HCK2
        by_cases hT : treeFault (putL l n) = 0
        · have HF := Lib.hid (HT2.out hT)
          rw [hT] at HCK2
          clear hT
          go_wp2_with fail
          refine HCK2.out.mono ?_
          rintro e w8 ⟨rfl, hb⟩
          have HB8 := Lib.hid (HB.out.trans (hb.mono HB.out.size))
          have HO8 := Lib.hid (nods_below HSL.out hb)
          rw [HPL.out] at HO8
          clear hb
          go_wp2_with fail
          refine (CopyR_any _ _ _ HO8.out (by omega) (list_dat (putL_dat HDT.out HND.out))).mono ?_
          rintro e w9 ⟨v9, m, rfl, ho, hbr, hb⟩
          have HB9 := Lib.hid (HB8.out.trans (hb.mono HB8.out.size))
          have HO9 := Lib.hid (ho.mono (Nat.le_trans HB1.out.size HB8.out.size))
          have HBR := Lib.hid hbr
          clear ho hbr hb
          go_wp2
          go_ret2
          rw [HF.out]
          exact ⟨_, m, rfl, HO9.out, HBR.out, HB1.out.trans (HB9.out.mono HB1.out.size)⟩
        · have HF := Lib.hid (HT1.out hT)
          generalize treeFault (putL l n) = tf at *
          have hq : (tf == 0) = false := by rw [beq_eq_false_iff_ne]; exact hT
          clear hT
          go_wp2_with fail
          refine HCK2.out.mono ?_
          rintro e w8 ⟨rfl, hb⟩
          have HB8 := Lib.hid (HB.out.trans (hb.mono HB.out.size))
          clear hb
          go_wp2
          go_ret2
          rw [HF.out]
          exact ⟨_, [], rfl, OwnNods.nil _ _ _, rfl, HB1.out.trans (HB8.out.mono HB1.out.size)⟩
      | false =>
        have HPL := Lib.hid (show o ++ [n] = putL l n from by rcases HA.out with h | h; exact absurd h.1 (by simp); exact h.2)
        have HNA := Lib.hid (HB.out.alloc HB.out.size (boxOf n))
        have HNO := Lib.hid (HOW.out.below ((Below.refl wr.heap.size wr).alloc (Nat.le_refl _) (boxOf n)))
        have HNN := Lib.hid (nodIn_arg HN1.out HNA.out HOW.out)
        go_upto_region 18 with (at_builtin; refine wpList_app _ rfl (.tmp 48) (.tmp 50) 40 40 rfl _ _ rfl rfl (fun ty => app_src _ 40 40 ty w1.heap.size 48 i0 _ 12 144 Tryd.underlying40 HI.out.1 HI.out.2.1 HI.out.2.2.1 HI.out.2.2.2 rfl (by decide) _ _ o.length 1 _ _ HNO.out.1 (src_nod wr _ _ _ Tryd.underlying40 n) (by unfold maxLen; omega) (by omega) HNA.out.size) ?_; intro v5 w5 ho2 hg2 hv2; have HZ := Lib.hid (And.intro ho2 (And.intro hg2 hv2.2)); clear ho2 hg2 hv2)
        have HO5 := Lib.hid (HNO.out.app (m := [n]) (fun y hy => by rw [List.mem_singleton.1 hy]; exact HNN.out) HZ.out.1 HZ.out.2.1 HZ.out.2.2)
        have HB5 := Lib.hid (below_app HNA.out HZ.out.2.1 HNO.out.1 HNA.out.size)
        have HSL := Lib.hid (HO5.out.slice (by rw [HPL.out]; unfold maxLen; omega))
        have HCK2 := Lib.hid (TreeFault_any _ _ _ HSL.out)
        rw [HPL.out] at HCK2
        by_cases hT : treeFault (putL l n) = 0
        · have HF := Lib.hid (HT2.out hT)
          rw [hT] at HCK2
          clear hT
          go_wp2_with fail
          refine HCK2.out.mono ?_
          rintro e w8 ⟨rfl, hb⟩
          have HB8 := Lib.hid (HB5.out.trans (hb.mono HB5.out.size))
          have HO8 := Lib.hid (nods_below HSL.out hb)
          rw [HPL.out] at HO8
          clear hb
          go_wp2_with fail
          refine (CopyR_any _ _ _ HO8.out (by omega) (list_dat (putL_dat HDT.out HND.out))).mono ?_
          rintro e w9 ⟨v9, m, rfl, ho, hbr, hb⟩
          have HB9 := Lib.hid (HB8.out.trans (hb.mono HB8.out.size))
          have HO9 := Lib.hid (ho.mono (Nat.le_trans HB1.out.size HB8.out.size))
          have HBR := Lib.hid hbr
          clear ho hbr hb
          go_wp2
          go_ret2
          rw [HF.out]
          exact ⟨_, m, rfl, HO9.out, HBR.out, HB1.out.trans (HB9.out.mono HB1.out.size)⟩
        · have HF := Lib.hid (HT1.out hT)
          generalize treeFault (putL l n) = tf at *
          have hq : (tf == 0) = false := by rw [beq_eq_false_iff_ne]; exact hT
          clear hT
          go_wp2_with fail
          refine HCK2.out.mono ?_
          rintro e w8 ⟨rfl, hb⟩
          have HB8 := Lib.hid (HB5.out.trans (hb.mono HB5.out.size))
          clear hb
          go_wp2
          go_ret2
          rw [HF.out]
          exact ⟨_, [], rfl, OwnNods.nil _ _ _, rfl, HB1.out.trans (HB8.out.mono HB1.out.size)⟩
set_option maxRecDepth 100000 in
set_option maxHeartbeats 1000000 in
theorem PutR_nil (a : Option Addr) (cap : Nat) (n : Nod) (w : World) (h : SliceC maxLen 12 (NodC maxLen) w [.slice a 0 cap] [])
    (hn : n.Ok maxLen w) (hns : n.path.size ≤ 1048576) (hnd : n.data.length ≤ 140737488355328) :
    Calls Tryd.prog 35 #[.slice a 0 cap, n.val] w (RetTE 48 w (treePut [] n)) := by
  obtain ⟨i0, hi, hz0, hz1, hz2⟩ := info_parts info_node
  have HI := Lib.hid (And.intro hi (And.intro hz0 (And.intro hz1 hz2)))
  have HBX := Lib.hid ((Below.refl w.heap.size w).alloc (Nat.le_refl _) (boxOf n))
  have HNB := Lib.hid (nodAt_box w n 48)
  have HN := Lib.hid hn
  have HND := Lib.hid hnd
  have hE := treeFault_zero
  have HCK := Lib.hid (TreeFault_any _ [] _ (nods_below h HBX.out))
  rw [hE] at HCK
  have HT1 := Lib.hid (fun h => treePut_new (n := n) hE h)
  have HT2 := Lib.hid (fun h => treePut_ok (n := n) hE h)
  have HDT := Lib.hid (show ∀ x ∈ ([] : List Nod), x.data.length ≤ 140737488355328 from fun x hx => absurd hx (by simp))
  have hputl := putL_len [] n
  simp only [List.length_nil, Nat.zero_add] at hputl
  clear h hn hns hE hi hz0 hz1 hz2 hnd
  go_enter Tryd.func35, Tryd.ntmps35
  go_wp2_with fail
  refine HCK.out.mono ?_
  rintro e w1 ⟨rfl, hb⟩
  have HB1 := Lib.hid (HBX.out.trans (hb.mono (by simp)))
  have HNB1 := Lib.hid (HNB.out.below hb)
  have HN1 := Lib.hid (HN.out.below HB1.out)
  obtain ⟨m0, m1, m2, m3, m4, m5, m6, m7, m8, m9, m10, m11⟩ := HNB1.out.zero
  have HOW := Lib.hid (OwnNods.nil 48 w1 w1.heap.size)
  have HB := Lib.hid (Below.refl w1.heap.size w1)
  clear hb
  go_wp2
  go_loopw [7, 8, 10, 11, 20] (fun v7 v8 _ _ i wr => v7 = .slice none 0 0 ∧ v8 = .bool false ∧ i = .int .i64 0 ∧ wr = w1) (fun _ _ _ _ _ _ => 0)
  case atStart => exact ⟨rfl, rfl, rfl, rfl⟩
  case round =>
    obtain ⟨rfl, rfl, rfl, hw⟩ := hrel
    rw [hw]
    clear hw
    have HPL := Lib.hid (show ([] : List Nod) ++ [n] = putL [] n from rfl)
    have HNA := Lib.hid (HB.out.alloc HB.out.size (boxOf n))
    have HNO := Lib.hid (HOW.out.below ((Below.refl w1.heap.size w1).alloc (Nat.le_refl _) (boxOf n)))
    have HNN := Lib.hid (nodIn_arg HN1.out HNA.out HOW.out)
    go_upto_region 18 with (at_builtin; refine wpList_app _ rfl (.tmp 48) (.tmp 50) 40 40 rfl _ _ rfl rfl (fun ty => app_src _ 40 40 ty w1.heap.size 48 i0 _ 12 144 Tryd.underlying40 HI.out.1 HI.out.2.1 HI.out.2.2.1 HI.out.2.2.2 rfl (by decide) _ _ ([] : List Nod).length 1 _ _ HNO.out.1 (src_nod w1 _ _ _ Tryd.underlying40 n) (by unfold maxLen; simp) (by simp) HNA.out.size) ?_; intro v5 w5 ho2 hg2 hv2; have HZ := Lib.hid (And.intro ho2 (And.intro hg2 hv2.2)); clear ho2 hg2 hv2)
    have HO5 := Lib.hid (HNO.out.app (m := [n]) (fun y hy => by rw [List.mem_singleton.1 hy]; exact HNN.out) HZ.out.1 HZ.out.2.1 HZ.out.2.2)
    have HB5 := Lib.hid (below_app HNA.out HZ.out.2.1 HNO.out.1 HNA.out.size)
    have HSL := Lib.hid (HO5.out.slice (by rw [HPL.out]; unfold maxLen; omega))
    have HCK2 := Lib.hid (TreeFault_any _ _ _ HSL.out)
    rw [HPL.out] at HCK2
    by_cases hT : treeFault (putL [] n) = 0
    · have HF := Lib.hid (HT2.out hT)
      rw [hT] at HCK2
      clear hT
      go_wp2_with fail
      refine HCK2.out.mono ?_
      rintro e w8 ⟨rfl, hb⟩
      have HB8 := Lib.hid (HB5.out.trans (hb.mono HB5.out.size))
      have HO8 := Lib.hid (nods_below HSL.out hb)
      rw [HPL.out] at HO8
      clear hb
      go_wp2_with fail
      refine (CopyR_any _ _ _ HO8.out (by omega) (list_dat (putL_dat HDT.out HND.out))).mono ?_
      rintro e w9 ⟨v9, m, rfl, ho, hbr, hb⟩
      have HB9 := Lib.hid (HB8.out.trans (hb.mono HB8.out.size))
      have HO9 := Lib.hid (ho.mono (Nat.le_trans HB1.out.size HB8.out.size))
      have HBR := Lib.hid hbr
      clear ho hbr hb
      go_wp2
      go_ret2
      rw [HF.out]
      exact ⟨_, m, rfl, HO9.out, HBR.out, HB1.out.trans (HB9.out.mono HB1.out.size)⟩
    · have HF := Lib.hid (HT1.out hT)
      generalize treeFault (putL [] n) = tf at *
      have hq : (tf == 0) = false := by rw [beq_eq_false_iff_ne]; exact hT
      clear hT
      go_wp2_with fail
      refine HCK2.out.mono ?_
      rintro e w8 ⟨rfl, hb⟩
      have HB8 := Lib.hid (HB5.out.trans (hb.mono HB5.out.size))
      clear hb
      go_wp2
      go_ret2
      rw [HF.out]
      exact ⟨_, [], rfl, OwnNods.nil _ _ _, rfl, HB1.out.trans (HB8.out.mono HB1.out.size)⟩

set_option maxRecDepth 100000 in
set_option maxHeartbeats 1000000 in
theorem PutR_any (v : Value) (l : List Nod) (n : Nod) (w : World) (h : SliceC maxLen 12 (NodC maxLen) w [v] l) (hn : n.Ok maxLen w) (hns : n.path.size ≤ 1048576) (hnd : n.data.length ≤ 140737488355328) :
    Calls Tryd.prog 35 #[v, n.val] w (RetTE 48 w (treePut l n)) := by
  by_cases hE : treeFault l = 0
  · rcases nods_cases h with ⟨a, cap, rfl, rfl, _⟩ | ⟨b, off, cap, rfl, h1, h2, h3, h6, h4, h5⟩
    · exact PutR_nil a cap n w h hn hns hnd
    · exact PutR_at b off cap l n w h1 h2 h3 h4 h5 h hn hns hnd hE
  · have HBX := Lib.hid ((Below.refl w.heap.size w).alloc (Nat.le_refl _) (boxOf n))
    have HC := Lib.hid (TreeFault_any v l _ (nods_below h HBX.out))
    have HF := Lib.hid (treePut_bad (n := n) hE)
    generalize treeFault l = tf at *
    have hq : (tf == 0) = false := by rw [beq_eq_false_iff_ne]; exact hE
    clear hE h hn hns hnd
    go_enter Tryd.func35, Tryd.ntmps35
    go_wp2_with fail
    refine HC.out.mono ?_
    rintro e w1 ⟨rfl, hb⟩
    have HB1 := Lib.hid (HBX.out.trans (hb.mono (by simp)))
    clear hb
    go_wp2
    go_ret2
    rw [HF.out]
    exact ⟨_, [], rfl, OwnNods.nil _ _ _, rfl, HB1.out⟩
end Go.Proofs.YtecmcgedeaemgaaDoor
