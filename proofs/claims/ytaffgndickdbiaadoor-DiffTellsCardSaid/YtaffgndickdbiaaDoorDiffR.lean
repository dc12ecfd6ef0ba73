/-
  creelref.DiffOf, walked.
-/
import Derived.Test.YtaffgndickdbiaaDoorDiffL
import Derived.Test.YtaffgndickdbiaaDoorIsortR
import Derived.Test.YtaffgndickdbiaaDoorFindN
namespace Go.Creel
set_option linter.unusedVariables false
set_option linter.unusedSimpArgs false
open Go.RowKit
/-- what the reference has said of the first k of all nodes -/
def RefTo (a b c : List Nod) (k : Nat) (o : List Chg) : Prop := o.map Chg.bare = ((c.take k).flatMap fun n => chgAt a b n.path).map Chg.bare
section
variable {a b c : List Nod} {k : Nat} {o : List Chg}
theorem RefTo.step (h : RefTo a b c k o) (hk : k < c.length) (o' : List Chg) (ho : o'.map Chg.bare = (chgAt a b (nk c k).path).map Chg.bare) : RefTo a b c (k + 1) (o ++ o') := by
  unfold RefTo at h ⊢
  rw [take_nk hk, List.flatMap_append, List.map_append, List.map_append, h, ho]
  simp
theorem flat_bare {m : List Nod} : ∀ {c d : List Nod}, c.map Nod.bare = d.map Nod.bare → (c.flatMap fun n => chgAt a b n.path) = d.flatMap fun n => chgAt a b n.path
  | [], [], _ => rfl
  | [], _ :: _, h => by simp at h
  | _ :: _, [], h => by simp at h
  | x :: c, y :: d, h => by
    simp only [List.map_cons, List.cons.injEq] at h
    rw [List.flatMap_cons, List.flatMap_cons, (bare_parts h.1).1, flat_bare (m := m) h.2]
theorem RefTo.done (h : RefTo a b c c.length o) (hc : c.map Nod.bare = (isort (allN a b)).map Nod.bare) (ha : OrdL a) (hb : OrdL b) : o.map Chg.bare = (diffL a b).map Chg.bare := by
  unfold RefTo at h
  rw [List.take_length] at h
  rw [h, flat_bare (m := []) hc, diff_sorted ha hb]
theorem flat_one (a b : List Nod) : ∀ c : List Nod, (c.flatMap fun n => chgAt a b n.path).length ≤ c.length
  | [] => Nat.le_refl _
  | x :: c => by
    have ih := flat_one a b c
    have h1 : (chgAt a b x.path).length ≤ 1 := by
      unfold chgAt
      by_cases e : treeFind b x.path = b.length
      · rw [if_pos e]; simp
      · rw [if_neg e]
        by_cases e2 : treeFind a x.path = a.length
        · rw [if_pos e2]; simp
        · rw [if_neg e2]; exact othN_len _ _
    rw [List.flatMap_cons, List.length_append, List.length_cons]; omega
theorem RefTo.len (h : RefTo a b c k o) : o.length ≤ c.length := by
  have h1 := congrArg List.length h
  have h2 := flat_one a b (c.take k)
  simp only [List.length_map] at h1
  rw [List.length_take] at h2
  omega
theorem allN_mem {z : Nod} (h : z ∈ allN a b) (hn : treeFind b z.path = b.length) : treeFind a z.path < a.length := by
  unfold allN at h
  rcases List.mem_append.1 h with h1 | h1
  · exact find_mem h1 rfl
  · exact absurd rfl (find_out.1 hn z (List.mem_filter.1 h1).1)
theorem all_mem (hc : c.map Nod.bare = (isort (allN a b)).map Nod.bare) (hk : k < c.length) : ∃ z ∈ allN a b, z.path = (nk c k).path := by
  have hl : c.length = (isort (allN a b)).length := bare_len hc
  refine ⟨nk (isort (allN a b)) k, isort_mem.1 (nk_mem (by omega)), ?_⟩
  exact (bare_parts (bare_nk hc hk)).1.symm
theorem chgAt_gone {s : ByteArray} (h : treeFind b s = b.length) : chgAt a b s = [⟨1, nk a (treeFind a s)⟩] := by unfold chgAt; rw [if_pos h]
theorem chgAt_new {s : ByteArray} (h : ¬ treeFind b s = b.length) (h2 : treeFind a s = a.length) : chgAt a b s = [⟨2, nk b (treeFind b s)⟩] := by unfold chgAt; rw [if_neg h, if_pos h2]
theorem chgAt_both {s : ByteArray} (h : ¬ treeFind b s = b.length) (h2 : ¬ treeFind a s = a.length) : chgAt a b s = othN (nk a (treeFind a s)) (nk b (treeFind b s)) := by unfold chgAt; rw [if_neg h, if_neg h2]
end
theorem nods_one {w : World} {b off cap i : Nat} {l : List Nod} (hok : (nk l i).Ok maxLen w) (hc : NodAt w b (off + i * 12) (nk l i)) (hi : i < cap) (hm : cap ≤ maxLen) : SliceC maxLen 12 (NodC maxLen) w [.slice (some ⟨b, off + i * 12, none⟩) 1 (cap - i)] [nk l i] := by
  obtain ⟨h0, h1, h2, h3, h4, h5, h6, h7, h8, h9, h10, h11⟩ := hc
  refine ⟨_, _, rfl, by simp; omega, by omega, by unfold maxLen; simp, (fun h => by cases h), fun _ => ⟨b, off + i * 12, rfl, fun k hk => ⟨(nk l i).cells, rfl, fun j hj => ?_, ?_, ?_⟩⟩⟩
  · obtain rfl : k = 0 := by simp at hk; omega
    have hz : off + i * 12 + 0 * 12 + j = off + i * 12 + j := by omega
    rw [hz]
    rcases j with _ | _ | _ | _ | _ | _ | _ | _ | _ | _ | _ | _ | j
    · exact h0
    · exact h1
    · exact h2
    · exact h3
    · exact h4
    · exact h5
    · exact h6
    · exact h7
    · exact h8
    · exact h9
    · exact h10
    · exact h11
    · omega
  · obtain rfl : k = 0 := by simp at hk; omega
    rfl
  · obtain rfl : k = 0 := by simp at hk; omega
    exact hok
theorem filter_take_len (a b : List Nod) (k : Nat) : (a ++ (b.take k).filter (newB a)).length ≤ a.length + b.length := by
  have h1 := List.length_filter_le (newB a) (b.take k)
  rw [List.length_take] at h1
  rw [List.length_append]; omega
theorem allN_of {P : Nod → Prop} {a b : List Nod} (ha : ∀ x ∈ a, P x) (hb : ∀ x ∈ b, P x) : ∀ x ∈ allN a b, P x := by
  intro x hx
  rcases List.mem_append.1 hx with h | h
  · exact ha x h
  · exact hb x (List.mem_filter.1 h).1
theorem list_of_nk {P : Nod → Prop} {l : List Nod} (h : ∀ i, i < l.length → P (nk l i)) : ∀ x ∈ l, P x := by
  intro x hx
  obtain ⟨i, hi, e⟩ := List.mem_iff_getElem.1 hx
  rw [← e, ← nk_eq hi]; exact h i hi
theorem nk_of_list {P : Nod → Prop} {l : List Nod} (h : ∀ x ∈ l, P x) : ∀ i, i < l.length → P (nk l i) := fun i hi => h _ (nk_mem hi)
end Go.Creel
namespace Go.Proofs.YtaffgndickdbiaaDoor
set_option linter.unusedVariables false
set_option linter.unusedSimpArgs false
open Go.Creel Go.RowKit
theorem run_oneN (w : World) (b off n cap i : Nat) (h : i < n) (hc : n ≤ cap) : (Instr.slice 22 (.slice (some ⟨b, off, none⟩) n cap) (some (.int .i64 i)) (some (.int .i64 ((i : Int) + 1))) none).run Tryd.prog w = .ok (.slice (some ⟨b, off + i * 12, none⟩) 1 (cap - i)) w := by
  rw [run_slice_lh w 22 _ n cap (by kernel_rfl) .i64 .i64 i ((i : Int) + 1) (by omega) (by omega) (by omega)]
  have hs : (sizeOf (Tryd.prog.elem 22)).run Tryd.prog w = .ok 12 w := by kernel_rfl
  rw [hs]
  simp only [Result.andThen, sliced, Int.toNat_natCast]
  rw [if_neg (by omega), show ((i : Int) + 1).toNat - i = 1 by omega]
  simp only [Option.map_some, Addr.add]
  by_cases h0 : i * 12 = 0 <;> simp [h0]
set_option maxRecDepth 100000 in
set_option maxHeartbeats 8000000 in
theorem DiffR_ok (v1 v2 : Value) (a b : List Nod) (w : World) (ha : SliceC maxLen 12 (NodC maxLen) w [v1] a) (hb : SliceC maxLen 12 (NodC maxLen) w [v2] b) (hEA : treeFault a = 0) (hEB : treeFault b = 0) :
    Calls Tryd.prog 10 #[v1, v2] w (RetCE tChg w (diffL a b, 0)) := by
  obtain ⟨i0, hi, hz0, hz1, hz2⟩ := info_parts info_chg
  have HI := Lib.hid (And.intro hi (And.intro hz0 (And.intro hz1 hz2)))
  clear hi hz0 hz1 hz2
  obtain ⟨i1, hi, hz0, hz1, hz2⟩ := info_parts info_node
  have HJ := Lib.hid (And.intro hi (And.intro hz0 (And.intro hz1 hz2)))
  have HSA := Lib.hid ha
  have HSB := Lib.hid hb
  obtain ⟨p1, cp1, rfl, hcl1, hcm1, hr1⟩ := nods_row ha
  obtain ⟨p2, cp2, rfl, hcl2, hcm2, hr2⟩ := nods_row hb
  have HA := Lib.hid hr1
  have HB := Lib.hid hr2
  have hfa := (treeFault_all hEA).1
  have hfb := (treeFault_all hEB).1
  have HDA := Lib.hid (treeFault_dat hEA)
  have HDB := Lib.hid (treeFault_dat hEB)
  have HPA := Lib.hid (fun k (hk : k < a.length) => show (nk a k).path.size ≤ 1048576 from Nat.le_trans (nodFault_size ((treeFault_all hEA).2 k hk)) (by omega))
  have HPB := Lib.hid (fun k (hk : k < b.length) => show (nk b k).path.size ≤ 1048576 from Nat.le_trans (nodFault_size ((treeFault_all hEB).2 k hk)) (by omega))
  have HCA := Lib.hid (fun w (h : SliceC maxLen 12 (NodC maxLen) w [.slice p1 a.length cp1] a) => TreeFault_any _ a w h)
  have HCB := Lib.hid (fun w (h : SliceC maxLen 12 (NodC maxLen) w [.slice p2 b.length cp2] b) => TreeFault_any _ b w h)
  have HOA := Lib.hid (treeFault_ord hEA)
  have HOB := Lib.hid (treeFault_ord hEB)
  rw [hEA] at HCA
  rw [hEB] at HCB
  unfold maxLen at hcm1 hcm2
  clear ha hb hr1 hr2 hEA hEB hi hz0 hz1 hz2
  go_enter Tryd.func10, Tryd.ntmps10
  go_wp2_with fail
  refine (HCA.out _ HSA.out).mono ?_
  rintro e w1 ⟨rfl, hb⟩
  have HB1 := Lib.hid hb
  clear hb
  go_wp2_with fail
  refine (HCB.out _ (nods_below HSB.out HB1.out)).mono ?_
  rintro e w2 ⟨rfl, hb⟩
  have HB2 := Lib.hid (HB1.out.trans (hb.mono HB1.out.size))
  clear hb
  have HP2 := Lib.hid ((Below.refl w2.heap.size w2).alloc (Nat.le_refl _) (.cells #[] 60))
  have HA2 := Lib.hid (HB2.out.alloc HB2.out.size (.cells #[] 60))
  have HE2 := Lib.hid (show OwnNods 60 (w2.alloc (.cells #[] 60)) w.heap.size (.slice (some ⟨w2.heap.size, 0, none⟩) 0 0) [] from ⟨World.ownsRow_made w2 #[] 0 HB2.out.size (by unfold maxLen; omega) rfl, fun x hx => absurd hx (by simp)⟩)
  have HT2 := Lib.hid (nods_below HSA.out HA2.out)
  have HNI2 := Lib.hid (show ∀ x ∈ a, NodIn (w2.alloc (.cells #[] 60)) (.slice (some ⟨w2.heap.size, 0, none⟩) 0 0) x from list_of_nk fun q hq => by
    obtain ⟨b1, o1, _, _, hk1⟩ := HA.out (by omega)
    refine ⟨(hk1 q hq).below HA2.out, fun z hp hz e => ?_⟩
    have h1 := (hk1 q hq).lt z hp hz
    have h2 := HB2.out.size
    simp only [Value.ownBlock, Option.some.injEq] at e
    omega)
  go_upto_region 9 with (at_builtin; refine wpList_app _ rfl (.tmp 26) (.tmp 27) 22 22 rfl _ _ rfl rfl (fun ty => app_src _ 22 22 ty w.heap.size 60 i1 _ 12 144 Tryd.underlying22 HJ.out.1 HJ.out.2.1 HJ.out.2.2.1 HJ.out.2.2.2 rfl (by decide) _ _ ([] : List Nod).length a.length _ _ HE2.out.1 (src_nods Tryd.underlying22 HT2.out) (by unfold maxLen; simp; omega) (by simp; omega) HA2.out.size) ?_; intro v3 w3 ho hg hv; have HZ := Lib.hid (And.intro ho (And.intro hg hv.2)); clear ho hg hv)
  have HO3 := Lib.hid (show OwnNods 60 w3 w.heap.size v3 a from HE2.out.app (m := a) HNI2.out HZ.out.1 HZ.out.2.1 HZ.out.2.2)
  have HB3 := Lib.hid (below_app HA2.out HZ.out.2.1 HE2.out.1 HA2.out.size)
  go_wp2
  go_loopw [9, 11, 31] (fun v9 _ i wr => ∃ (q : Nat) (vv : Value) (m : List Nod), q ≤ b.length ∧ i = .int .i64 q ∧ vv = v9 ∧ Hid (m = a ++ (b.take q).filter (newB a)) ∧ Hid (OwnNods 60 wr w.heap.size vv m) ∧ Hid (Below w.heap.size w wr)) (fun _ _ i _ => b.length - (intOf i).toNat)
  case atStart => exact ⟨0, _, a, by omega, rfl, rfl, Lib.hid (by simp), HO3, HB3⟩
  case round =>
    obtain ⟨q, vv, m, hq, rfl, rfl, HM, HOW, HWB⟩ := hrel
    have hml : m.length ≤ a.length + b.length := by rw [HM.out]; exact filter_take_len a b q
    by_cases hlt : q < b.length
    · obtain ⟨b2, o2, rfl, hc2, hk2⟩ := HB.out (by omega)
      obtain ⟨h0, h1, h2, h3, h4, h5, h6, h7, h8, h9, h10, h11⟩ := (hc2.below HWB.out) q hlt
      have HKX := Lib.hid (hk2 q hlt)
      have HBX := Lib.hid ((Below.refl wr.heap.size wr).alloc (Nat.le_refl _) (boxOf (nk b q)))
      have HFA := Lib.hid (fun (s : ByteArray) => TreeFindN_any _ a s (wr.alloc (boxOf (nk b q))) (nods_below (nods_below HSA.out HWB.out) HBX.out))
      have hfl := treeFind_le a (nk b q).path
      have HKE := Lib.hid (fun (h : newB a (nk b q) = true) => filterTo_keep hlt h)
      have HSK := Lib.hid (fun (h : newB a (nk b q) = false) => filterTo_skip hlt h)
      have HNB := Lib.hid (show newB a (nk b q) = decide (treeFind a (nk b q).path = a.length) from rfl)
      clear hc2 hk2
      generalize nk b q = x at *
      have HXO := Lib.hid (HOW.out.below HBX.out)
      have HAX := Lib.hid (HWB.out.trans (HBX.out.mono HWB.out.size))
      by_cases hf : treeFind a x.path = a.length
      · have HK := Lib.hid (HKE.out (by rw [HNB.out, hf]; simp))
        rw [hf] at hfl
        have HF0 := Lib.hid (HFA.out x.path)
        rw [hf] at HF0
        have hbx := nodAt_box wr x 60
        have HA6 := Lib.hid (HAX.out.alloc HAX.out.size (boxOf x))
        have HO6 := Lib.hid (HXO.out.below ((Below.refl _ _).alloc (Nat.le_refl _) (boxOf x)))
        have HN6 := Lib.hid (nodIn_arg HKX.out HA6.out HOW.out)
        clear hf hbx
        go_wp2_with (first
          | (go_at_call 34; refine HF0.out.mono ?_; rintro e w' ⟨rfl, rfl⟩)
          | (at_builtin; refine wpList_app _ rfl (.tmp 42) (.tmp 44) 22 22 rfl _ _ rfl rfl (fun ty => app_src _ 22 22 ty w.heap.size 60 i1 _ 12 144 Tryd.underlying22 HJ.out.1 HJ.out.2.1 HJ.out.2.2.1 HJ.out.2.2.2 rfl (by decide) _ _ m.length 1 _ _ HO6.out.1 (src_nod_at _ (by simp) _ _ _ Tryd.underlying22 x) (by unfold maxLen; omega) (by omega) HA6.out.size) ?_; intro v6 w6 ho2 hg2 hv2; have HZ2 := Lib.hid (And.intro ho2 (And.intro hg2 hv2.2)); clear ho2 hg2 hv2))
        have HO7 := Lib.hid (HO6.out.app (m := [x]) (fun y hy => by rw [List.mem_singleton.1 hy]; exact HN6.out) HZ2.out.1 HZ2.out.2.1 HZ2.out.2.2)
        have HB7 := Lib.hid (below_app HA6.out HZ2.out.2.1 HO6.out.1 HA6.out.size)
        go_roundw
        case rel => exact ⟨q + 1, _, _, by omega, by go_num, rfl, Lib.hid (by rw [HK.out, HM.out, List.append_assoc]), HO7, HB7⟩
        case measure => simp [intOf]; omega
      · have HK := Lib.hid (HSK.out (by rw [HNB.out]; simpa using hf))
        have HF0 := Lib.hid (HFA.out x.path)
        generalize treeFind a x.path = f at *
        have hd : ((f : Int) == (a.length : Int)) = false := by rw [beq_eq_false_iff_ne]; omega
        clear hf
        go_wp2_with (go_at_call 34; refine HF0.out.mono ?_; rintro e w' ⟨rfl, rfl⟩)
        go_roundw
        case rel => exact ⟨q + 1, _, _, by omega, by go_num, rfl, Lib.hid (by rw [HK.out, HM.out]), HXO, HAX⟩
        case measure => simp [intOf]; omega
    · obtain rfl : q = b.length := by omega
      rw [List.take_length] at HM
      have HMN := Lib.hid (show m = allN a b from HM.out)
      have HDM := Lib.hid (show ∀ i, i < m.length → (nk m i).data.length ≤ 140737488355328 from by rw [HMN.out]; exact list_dat (allN_of (dat_list HDA.out) (dat_list HDB.out)))
      have HPM := Lib.hid (show ∀ i, i < m.length → (nk m i).path.size ≤ 1048576 from by rw [HMN.out]; exact nk_of_list (P := fun x => x.path.size ≤ 1048576) (allN_of (list_of_nk HPA.out) (list_of_nk HPB.out)))
      go_wp2_with fail
      refine (IsortR_any _ m _ (HOW.out.slice (by unfold maxLen; omega)) (by omega) HDM.out HPM.out).mono ?_
      rintro e w5 ⟨v5, c, rfl, ho, hcb, hb⟩
      rw [HMN.out] at hcb
      have HO5 := Lib.hid (ho.mono HWB.out.size)
      have HB5 := Lib.hid (HWB.out.trans (hb.mono HWB.out.size))
      have HC5 := Lib.hid hcb
      have hcl : c.length = m.length := by rw [HMN.out, ← isort_len (allN a b)]; exact bare_len hcb
      obtain ⟨p5, cp5, rfl, hcl5, hcm5, hp5⟩ := own_slice ho rfl
      have HP5 := Lib.hid hp5
      clear ho hb hcb hp5
      go_wp2
      go_loopw [8, 13, 14, 15, 50] (fun v8 _ _ _ i wr => ∃ (q : Nat) (vo : Value) (o : List Chg), q ≤ c.length ∧ i = .int .i64 q ∧ vo = v8 ∧ Hid (RefTo a b c q o) ∧ Hid (OwnChgs 62 wr w5.heap.size vo o) ∧ Hid (Below w5.heap.size w5 wr)) (fun _ _ _ _ i _ => c.length - (intOf i).toNat)
      case atStart => exact ⟨0, _, [], by omega, rfl, rfl, Lib.hid rfl, Lib.hid (OwnChgs.nil _ _ _), Lib.hid (Below.refl _ _)⟩
      case round =>
        obtain ⟨q, vo, o, hq, rfl, rfl, HR, HOW, HW5⟩ := hrel
        have hol := HR.out.len
        have HWB := Lib.hid (HB5.out.trans (HW5.out.mono HB5.out.size))
        by_cases hlt : q < c.length
        · obtain ⟨g5, rfl, hg5⟩ := HP5.out (by omega)
          have HNA := Lib.hid (by have e := (HO5.out.below HW5.out).nodAt hlt; exact e)
          obtain ⟨h0, h1, h2, h3, h4, h5, h6, h7, h8, h9, h10, h11⟩ := HNA.out
          have HBX := Lib.hid ((Below.refl wr.heap.size wr).alloc (Nat.le_refl _) (boxOf (nk c q)))
          have HFA := Lib.hid (TreeFindN_any _ a (nk c q).path (wr.alloc (boxOf (nk c q))) (nods_below (nods_below HSA.out HWB.out) HBX.out))
          have HFB := Lib.hid (TreeFindN_any _ b (nk c q).path (wr.alloc (boxOf (nk c q))) (nods_below (nods_below HSB.out HWB.out) HBX.out))
          have hfla := treeFind_le a (nk c q).path
          have hflb := treeFind_le b (nk c q).path
          have HMEM := Lib.hid (show treeFind b (nk c q).path = b.length → treeFind a (nk c q).path < a.length from fun h => by
            obtain ⟨z, hz, e⟩ := all_mem HC5.out hlt
            rw [← e] at h ⊢
            exact allN_mem hz h)
          have HST := Lib.hid (fun o' ho => HR.out.step hlt o' ho)
          have HG1 := Lib.hid (fun h => chgAt_gone (a := a) (b := b) (s := (nk c q).path) h)
          have HG2 := Lib.hid (fun h h2 => chgAt_new (a := a) (b := b) (s := (nk c q).path) h h2)
          have HG3 := Lib.hid (fun h h2 => chgAt_both (a := a) (b := b) (s := (nk c q).path) h h2)
          generalize chgAt a b (nk c q).path = dd at *
          generalize treeFind a (nk c q).path = i at *
          generalize treeFind b (nk c q).path = j at *
          generalize nk c q = x0 at *
          have hbx := nodAt_box wr x0 60
          go_wp2_with fail
          refine HFA.out.mono ?_
          rintro e w' ⟨rfl, rfl⟩
          go_wp2_with fail
          refine HFB.out.mono ?_
          rintro e w' ⟨rfl, rfl⟩
          go_upto_region 20 with fail
          have HOC := Lib.hid (HOW.out.below HBX.out)
          have HWC := Lib.hid (HW5.out.trans (HBX.out.mono HW5.out.size))
          have HWW := Lib.hid (HB5.out.trans (HWC.out.mono HB5.out.size))
          clear h0 h1 h2 h3 h4 h5 h6 h7 h8 h9 h10 h11 hbx HFA HFB HNA HBX HOW HW5 HWB HR
          generalize wr.alloc (boxOf x0) = wc at *
          have HOW := HOC
          have HWB := HWC
          by_cases hj : j = b.length
          · have hia := HMEM.out hj
            have HD1 := Lib.hid (HG1.out hj)
            obtain ⟨b1, o1, rfl, hc1, hk1⟩ := HA.out (by omega)
            have HXK := Lib.hid ((hk1 i hia).below HWW.out)
            have HXN := Lib.hid ((hc1.below HWW.out) i hia)
            have HF1 := Lib.hid (show ∀ n : Nod, n.bare = (nk a i).bare → [(⟨1, n⟩ : Chg)].map Chg.bare = dd.map Chg.bare from fun n hn => by rw [HD1.out]; simp [Chg.bare, hn])
            subst hj
            clear hc1 hk1
            have hsl := fun W => run_oneN W b1 o1 a.length cp1 i hia hcl1
            have HS1 := Lib.hid (nods_one (cap := cp1) HXK.out HXN.out (by omega) (by unfold maxLen; omega))
            go_wp2_with fail
            refine (CopyRG_any _ [(nk a i)] _ HS1.out (by simp) (by simp) (list_dat (fun z hz => by rw [List.mem_singleton.1 hz]; exact (HDA.out i hia)))).mono ?_
            rintro e w8 ⟨v8, c8, rfl, ho8, hc8, hb8, hf8⟩
            obtain ⟨n8, rfl⟩ : ∃ n8, c8 = [n8] := List.length_eq_one_iff.1 (bare_len hc8)
            obtain ⟨g8, cp8, rfl⟩ := ownsRow_form (n := 0) ho8.1
            have HN8 := Lib.hid (by have e := ho8.nodAt (k := 0) (by simp); rw [Nat.zero_mul] at e; exact e)
            obtain ⟨m0, m1, m2, m3, m4, m5, m6, m7, m8, m9, m10, m11⟩ := HN8.out.zero
            have HC8 := Lib.hid (show n8.bare = (nk a i).bare by simpa using hc8)
            have HW8 := Lib.hid (HWB.out.trans (hb8.mono HWB.out.size))
            have HO8 := Lib.hid (HOW.out.below hb8)
            have HK8 := Lib.hid (show ChgIn w8 vo ⟨1, n8⟩ from ⟨(show i64 1 from by unfold i64; omega), (ho8.2 n8 (by simp)).1, fun q hp hq e => by
              have h1 := hf8 n8 (by simp) q hq
              have h2 := (World.ownsRow.lt HOW.out.1 _ e).2
              omega⟩)
            have HB8 := Lib.hid (show n8.data.length ≤ maxLen by obtain ⟨_, _, _, _, _, h, _⟩ := (ho8.2 n8 (by simp)).1.data; exact h)
            have HA8 := Lib.hid (HW8.out.alloc HW8.out.size (.cells #[.int .i64 1, .string n8.path, .int .i64 n8.kind, .int .i64 n8.same, .string n8.target, .int .i64 n8.mt.mode, .int .i64 n8.mt.uid, .int .i64 n8.mt.gid, .string n8.mt.user, .string n8.mt.group, .int .i64 n8.mt.second, .int .i64 n8.mt.nano, .slice n8.da n8.data.length n8.dcap] 62))
            have HP8 := Lib.hid ((Below.refl w8.heap.size w8).alloc (Nat.le_refl _) (.cells #[.int .i64 1, .string n8.path, .int .i64 n8.kind, .int .i64 n8.same, .string n8.target, .int .i64 n8.mt.mode, .int .i64 n8.mt.uid, .int .i64 n8.mt.gid, .string n8.mt.user, .string n8.mt.group, .int .i64 n8.mt.second, .int .i64 n8.mt.nano, .slice n8.da n8.data.length n8.dcap] 62))
            have HO9 := Lib.hid (HO8.out.below HP8.out)
            clear ho8 hc8 hb8 hf8
            go_wp2_with (at_builtin; refine wpList_app _ rfl (.tmp 67) (.tmp 77) 23 23 rfl _ _ rfl rfl (fun ty => app_src _ 23 23 ty w5.heap.size 62 i0 _ 13 152 Tryd.underlying23 HI.out.1 HI.out.2.1 HI.out.2.2.1 HI.out.2.2.2 rfl (by decide) _ _ o.length 1 _ _ HO9.out.1 (src_chg w8 rfl _ _ _ Tryd.underlying23 1 n8) (by unfold maxLen; omega) (by omega) HA8.out.size) ?_; intro v9 w9 ho2 hg2 hv2; have HZ := Lib.hid (And.intro ho2 (And.intro hg2 hv2.2)); clear ho2 hg2 hv2)
            have HO10 := Lib.hid (HO9.out.app (m := [⟨1, n8⟩]) (fun y hy => by rw [List.mem_singleton.1 hy]; exact HK8.out.below HP8.out) HZ.out.1 HZ.out.2.1 HZ.out.2.2)
            have HB10 := Lib.hid (below_app HA8.out HZ.out.2.1 HO9.out.1 HA8.out.size)
            go_roundw
            case rel => exact ⟨q + 1, _, _, by omega, by go_num, rfl, Lib.hid (HST.out _ (HF1.out n8 HC8.out)), HO10, HB10⟩
            case measure => simp [intOf]; omega
          · have hdj : ((j : Int) == (b.length : Int)) = false := by rw [beq_eq_false_iff_ne]; omega
            have hjb : j < b.length := by omega
            obtain ⟨b2, o2, rfl, hc2, hk2⟩ := HB.out (by omega)
            have HYK := Lib.hid ((hk2 j hjb).below HWW.out)
            have HYN := Lib.hid ((hc2.below HWW.out) j hjb)
            by_cases hi : i = a.length
            · have HD1 := Lib.hid (HG2.out hj hi)
              have HF1 := Lib.hid (show ∀ n : Nod, n.bare = (nk b j).bare → [(⟨2, n⟩ : Chg)].map Chg.bare = dd.map Chg.bare from fun n hn => by rw [HD1.out]; simp [Chg.bare, hn])
              subst hi
              clear hc2 hk2 hj
              have hsl := fun W => run_oneN W b2 o2 b.length cp2 j hjb hcl2
              have HS1 := Lib.hid (nods_one (cap := cp2) HYK.out HYN.out (by omega) (by unfold maxLen; omega))
              go_wp2_with fail
              refine (CopyRG_any _ [(nk b j)] _ HS1.out (by simp) (by simp) (list_dat (fun z hz => by rw [List.mem_singleton.1 hz]; exact (HDB.out j hjb)))).mono ?_
              rintro e w8 ⟨v8, c8, rfl, ho8, hc8, hb8, hf8⟩
              obtain ⟨n8, rfl⟩ : ∃ n8, c8 = [n8] := List.length_eq_one_iff.1 (bare_len hc8)
              obtain ⟨g8, cp8, rfl⟩ := ownsRow_form (n := 0) ho8.1
              have HN8 := Lib.hid (by have e := ho8.nodAt (k := 0) (by simp); rw [Nat.zero_mul] at e; exact e)
              obtain ⟨m0, m1, m2, m3, m4, m5, m6, m7, m8, m9, m10, m11⟩ := HN8.out.zero
              have HC8 := Lib.hid (show n8.bare = (nk b j).bare by simpa using hc8)
              have HW8 := Lib.hid (HWB.out.trans (hb8.mono HWB.out.size))
              have HO8 := Lib.hid (HOW.out.below hb8)
              have HK8 := Lib.hid (show ChgIn w8 vo ⟨2, n8⟩ from ⟨(show i64 2 from by unfold i64; omega), (ho8.2 n8 (by simp)).1, fun q hp hq e => by
                have h1 := hf8 n8 (by simp) q hq
                have h2 := (World.ownsRow.lt HOW.out.1 _ e).2
                omega⟩)
              have HB8 := Lib.hid (show n8.data.length ≤ maxLen by obtain ⟨_, _, _, _, _, h, _⟩ := (ho8.2 n8 (by simp)).1.data; exact h)
              have HA8 := Lib.hid (HW8.out.alloc HW8.out.size (.cells #[.int .i64 2, .string n8.path, .int .i64 n8.kind, .int .i64 n8.same, .string n8.target, .int .i64 n8.mt.mode, .int .i64 n8.mt.uid, .int .i64 n8.mt.gid, .string n8.mt.user, .string n8.mt.group, .int .i64 n8.mt.second, .int .i64 n8.mt.nano, .slice n8.da n8.data.length n8.dcap] 62))
              have HP8 := Lib.hid ((Below.refl w8.heap.size w8).alloc (Nat.le_refl _) (.cells #[.int .i64 2, .string n8.path, .int .i64 n8.kind, .int .i64 n8.same, .string n8.target, .int .i64 n8.mt.mode, .int .i64 n8.mt.uid, .int .i64 n8.mt.gid, .string n8.mt.user, .string n8.mt.group, .int .i64 n8.mt.second, .int .i64 n8.mt.nano, .slice n8.da n8.data.length n8.dcap] 62))
              have HO9 := Lib.hid (HO8.out.below HP8.out)
              clear ho8 hc8 hb8 hf8
              go_wp2_with (at_builtin; refine wpList_app _ rfl (.tmp 84) (.tmp 94) 23 23 rfl _ _ rfl rfl (fun ty => app_src _ 23 23 ty w5.heap.size 62 i0 _ 13 152 Tryd.underlying23 HI.out.1 HI.out.2.1 HI.out.2.2.1 HI.out.2.2.2 rfl (by decide) _ _ o.length 1 _ _ HO9.out.1 (src_chg w8 rfl _ _ _ Tryd.underlying23 2 n8) (by unfold maxLen; omega) (by omega) HA8.out.size) ?_; intro v9 w9 ho2 hg2 hv2; have HZ := Lib.hid (And.intro ho2 (And.intro hg2 hv2.2)); clear ho2 hg2 hv2)
              have HO10 := Lib.hid (HO9.out.app (m := [⟨2, n8⟩]) (fun y hy => by rw [List.mem_singleton.1 hy]; exact HK8.out.below HP8.out) HZ.out.1 HZ.out.2.1 HZ.out.2.2)
              have HB10 := Lib.hid (below_app HA8.out HZ.out.2.1 HO9.out.1 HA8.out.size)
              go_roundw
              case rel => exact ⟨q + 1, _, _, by omega, by go_num, rfl, Lib.hid (HST.out _ (HF1.out n8 HC8.out)), HO10, HB10⟩
              case measure => simp [intOf]; omega
            · have hdi : ((i : Int) == (a.length : Int)) = false := by rw [beq_eq_false_iff_ne]; omega
              have hia : i < a.length := by omega
              have HD1 := Lib.hid (HG3.out hj hi)
              obtain ⟨b1, o1, rfl, hc1, hk1⟩ := HA.out (by omega)
              have HX1 := Lib.hid ((hk1 i hia).below HWW.out)
              have HXA1 := Lib.hid ((hc1.below HWW.out) i hia)
              have HY1 := HYK
              have HYA1 := HYN
              have HSY := Lib.hid (nods_one (cap := cp2) HYK.out HYN.out (by omega) (by unfold maxLen; omega))
              have hyd := HDB.out j hjb
              clear hc1 hk1 hc2 hk2 hi hj
              generalize nk a i = x at *
              generalize nk b j = y at *
              obtain ⟨h0, h1, h2, h3, h4, h5, h6, h7, h8, h9, h10, h11⟩ := HXA1.out
              obtain ⟨g0, g1, g2, g3, g4, g5', g6, g7, g8, g9, g10, g11⟩ := HYA1.out
              have HS0 := Lib.hid (fun W (hB : Below wc.heap.size wc W) => show Calls Tryd.prog 36 #[x.val, y.val] W (fun e w' => e = .returned (.bool (sameB x y)) ∧ w'.cell? ⟨b1, o1 + i * 12, none⟩ = some (.string x.path) ∧ w'.cell? ⟨b1, o1 + i * 12 + 1, none⟩ = some (.int .i64 x.kind) ∧ w'.cell? ⟨b1, o1 + i * 12 + 2, none⟩ = some (.int .i64 x.same) ∧ w'.cell? ⟨b1, o1 + i * 12 + 3, none⟩ = some (.string x.target) ∧ w'.cell? ⟨b1, o1 + i * 12 + 4, none⟩ = some (.int .i64 x.mt.mode) ∧ w'.cell? ⟨b1, o1 + i * 12 + 5, none⟩ = some (.int .i64 x.mt.uid) ∧ w'.cell? ⟨b1, o1 + i * 12 + 6, none⟩ = some (.int .i64 x.mt.gid) ∧ w'.cell? ⟨b1, o1 + i * 12 + 7, none⟩ = some (.string x.mt.user) ∧ w'.cell? ⟨b1, o1 + i * 12 + 8, none⟩ = some (.string x.mt.group) ∧ w'.cell? ⟨b1, o1 + i * 12 + 9, none⟩ = some (.int .i64 x.mt.second) ∧ w'.cell? ⟨b1, o1 + i * 12 + 10, none⟩ = some (.int .i64 x.mt.nano) ∧ w'.cell? ⟨b1, o1 + i * 12 + 11, none⟩ = some (.slice x.da x.data.length x.dcap) ∧ w'.cell? ⟨b2, o2 + j * 12, none⟩ = some (.string y.path) ∧ w'.cell? ⟨b2, o2 + j * 12 + 1, none⟩ = some (.int .i64 y.kind) ∧ w'.cell? ⟨b2, o2 + j * 12 + 2, none⟩ = some (.int .i64 y.same) ∧ w'.cell? ⟨b2, o2 + j * 12 + 3, none⟩ = some (.string y.target) ∧ w'.cell? ⟨b2, o2 + j * 12 + 4, none⟩ = some (.int .i64 y.mt.mode) ∧ w'.cell? ⟨b2, o2 + j * 12 + 5, none⟩ = some (.int .i64 y.mt.uid) ∧ w'.cell? ⟨b2, o2 + j * 12 + 6, none⟩ = some (.int .i64 y.mt.gid) ∧ w'.cell? ⟨b2, o2 + j * 12 + 7, none⟩ = some (.string y.mt.user) ∧ w'.cell? ⟨b2, o2 + j * 12 + 8, none⟩ = some (.string y.mt.group) ∧ w'.cell? ⟨b2, o2 + j * 12 + 9, none⟩ = some (.int .i64 y.mt.second) ∧ w'.cell? ⟨b2, o2 + j * 12 + 10, none⟩ = some (.int .i64 y.mt.nano) ∧ w'.cell? ⟨b2, o2 + j * 12 + 11, none⟩ = some (.slice y.da y.data.length y.dcap) ∧ Below wc.heap.size wc w') from
                (SameR_any x y W (HX1.out.below hB).data (HY1.out.below hB).data).mono fun e w' hh => by
                  have hb2 := hB.trans (hh.2.mono hB.size)
                  obtain ⟨a0, a1, a2, a3, a4, a5, a6, a7, a8, a9, a10, a11⟩ := HXA1.out.below hb2
                  obtain ⟨e0, e1, e2, e3, e4, e5, e6, e7, e8, e9, e10, e11⟩ := HYA1.out.below hb2
                  exact ⟨hh.1, a0, a1, a2, a3, a4, a5, a6, a7, a8, a9, a10, a11, e0, e1, e2, e3, e4, e5, e6, e7, e8, e9, e10, e11, hb2⟩)
              have hbw := (Below.refl wc.heap.size wc).drew
              go_upto_region 24 with fail
              go_cut [96] from 97 to 119 (fun u w5 => u = .bool (othB x y) ∧ Hid (Below wc.heap.size wc w5))
              case first =>
                cases hs : sameB x y with
                | false =>
                  have HO3 := Lib.hid (othB_f hs)
                  have HS := HS0
                  rw [hs] at HS
                  clear hs HS0
                  refine wp_region_held_drew (S := fun w' => w'.cell? ⟨b1, o1 + i * 12, none⟩ = some (.string x.path) ∧ w'.cell? ⟨b1, o1 + i * 12 + 1, none⟩ = some (.int .i64 x.kind) ∧ w'.cell? ⟨b1, o1 + i * 12 + 2, none⟩ = some (.int .i64 x.same) ∧ w'.cell? ⟨b1, o1 + i * 12 + 3, none⟩ = some (.string x.target) ∧ w'.cell? ⟨b1, o1 + i * 12 + 4, none⟩ = some (.int .i64 x.mt.mode) ∧ w'.cell? ⟨b1, o1 + i * 12 + 5, none⟩ = some (.int .i64 x.mt.uid) ∧ w'.cell? ⟨b1, o1 + i * 12 + 6, none⟩ = some (.int .i64 x.mt.gid) ∧ w'.cell? ⟨b1, o1 + i * 12 + 7, none⟩ = some (.string x.mt.user) ∧ w'.cell? ⟨b1, o1 + i * 12 + 8, none⟩ = some (.string x.mt.group) ∧ w'.cell? ⟨b1, o1 + i * 12 + 9, none⟩ = some (.int .i64 x.mt.second) ∧ w'.cell? ⟨b1, o1 + i * 12 + 10, none⟩ = some (.int .i64 x.mt.nano) ∧ w'.cell? ⟨b1, o1 + i * 12 + 11, none⟩ = some (.slice x.da x.data.length x.dcap) ∧ w'.cell? ⟨b2, o2 + j * 12, none⟩ = some (.string y.path) ∧ w'.cell? ⟨b2, o2 + j * 12 + 1, none⟩ = some (.int .i64 y.kind) ∧ w'.cell? ⟨b2, o2 + j * 12 + 2, none⟩ = some (.int .i64 y.same) ∧ w'.cell? ⟨b2, o2 + j * 12 + 3, none⟩ = some (.string y.target) ∧ w'.cell? ⟨b2, o2 + j * 12 + 4, none⟩ = some (.int .i64 y.mt.mode) ∧ w'.cell? ⟨b2, o2 + j * 12 + 5, none⟩ = some (.int .i64 y.mt.uid) ∧ w'.cell? ⟨b2, o2 + j * 12 + 6, none⟩ = some (.int .i64 y.mt.gid) ∧ w'.cell? ⟨b2, o2 + j * 12 + 7, none⟩ = some (.string y.mt.user) ∧ w'.cell? ⟨b2, o2 + j * 12 + 8, none⟩ = some (.string y.mt.group) ∧ w'.cell? ⟨b2, o2 + j * 12 + 9, none⟩ = some (.int .i64 y.mt.second) ∧ w'.cell? ⟨b2, o2 + j * 12 + 10, none⟩ = some (.int .i64 y.mt.nano) ∧ w'.cell? ⟨b2, o2 + j * 12 + 11, none⟩ = some (.slice y.da y.data.length y.dcap) ∧ Below wc.heap.size wc w') (by kernel_rfl) (by go_keep) (fun hHeld => ?_)
                  refine wpAnyH_take (i := 0) (v := _) rfl (by kernel_rfl) (by kernel_rfl) (by kernel_rfl) (fun _ _ _ h => h) (Or.inl ⟨by rfl, fun w5 hSw => (by (try dsimp only at hSw); go_simp; try with_reducible rfl)⟩) hHeld ?_
                  try simp only [List.getElem_toArray, List.getElem_cons_succ, List.getElem_cons_zero, Act.put, List.setIfInBounds_toArray, List.set_cons_zero, List.set_cons_succ]
                  refine wpAnyH_take (i := 1) (v := _) rfl (by kernel_rfl) (by kernel_rfl) (by kernel_rfl) (fun _ _ _ h => h) (Or.inl ⟨by rfl, fun w5 hSw => (by (try dsimp only at hSw); go_simp; try with_reducible rfl)⟩) hHeld ?_
                  try simp only [List.getElem_toArray, List.getElem_cons_succ, List.getElem_cons_zero, Act.put, List.setIfInBounds_toArray, List.set_cons_zero, List.set_cons_succ]
                  refine wpAnyH_take (i := 2) (v := _) rfl (by kernel_rfl) (by kernel_rfl) (by kernel_rfl) (fun _ _ _ h => h) (Or.inl ⟨by rfl, fun w5 hSw => (by (try dsimp only at hSw); go_simp; try with_reducible rfl)⟩) hHeld ?_
                  try simp only [List.getElem_toArray, List.getElem_cons_succ, List.getElem_cons_zero, Act.put, List.setIfInBounds_toArray, List.set_cons_zero, List.set_cons_succ]
                  refine wpAnyH_take (i := 3) (v := _) rfl (by kernel_rfl) (by kernel_rfl) (by kernel_rfl) (fun _ _ _ h => h) (Or.inl ⟨by rfl, fun w5 hSw => (by (try dsimp only at hSw); go_simp; try with_reducible rfl)⟩) hHeld ?_
                  try simp only [List.getElem_toArray, List.getElem_cons_succ, List.getElem_cons_zero, Act.put, List.setIfInBounds_toArray, List.set_cons_zero, List.set_cons_succ]
                  refine wpAnyH_take (i := 4) (v := _) rfl (by kernel_rfl) (by kernel_rfl) (by kernel_rfl) (fun _ _ _ h => h) (Or.inl ⟨by rfl, fun w5 hSw => (by (try dsimp only at hSw); go_simp; try with_reducible rfl)⟩) hHeld ?_
                  try simp only [List.getElem_toArray, List.getElem_cons_succ, List.getElem_cons_zero, Act.put, List.setIfInBounds_toArray, List.set_cons_zero, List.set_cons_succ]
                  refine wpAnyH_take (i := 5) (v := _) rfl (by kernel_rfl) (by kernel_rfl) (by kernel_rfl) (fun _ _ _ h => h) (Or.inl ⟨by rfl, fun w5 hSw => (by (try dsimp only at hSw); go_simp; try with_reducible rfl)⟩) hHeld ?_
                  try simp only [List.getElem_toArray, List.getElem_cons_succ, List.getElem_cons_zero, Act.put, List.setIfInBounds_toArray, List.set_cons_zero, List.set_cons_succ]
                  refine wpAnyH_take (i := 6) (v := _) rfl (by kernel_rfl) (by kernel_rfl) (by kernel_rfl) (fun _ _ _ h => h) (Or.inl ⟨by rfl, fun w5 hSw => (by (try dsimp only at hSw); go_simp; try with_reducible rfl)⟩) hHeld ?_
                  try simp only [List.getElem_toArray, List.getElem_cons_succ, List.getElem_cons_zero, Act.put, List.setIfInBounds_toArray, List.set_cons_zero, List.set_cons_succ]
                  refine wpAnyH_take (i := 7) (v := _) rfl (by kernel_rfl) (by kernel_rfl) (by kernel_rfl) (fun _ _ _ h => h) (Or.inl ⟨by rfl, fun w5 hSw => (by (try dsimp only at hSw); go_simp; try with_reducible rfl)⟩) hHeld ?_
                  try simp only [List.getElem_toArray, List.getElem_cons_succ, List.getElem_cons_zero, Act.put, List.setIfInBounds_toArray, List.set_cons_zero, List.set_cons_succ]
                  refine wpAnyH_ready (rs := [8]) (by kernel_rfl) (by simp) ?_
                  refine AllReadyH.cons rfl (fun K5 hK5 => ?_) AllReadyH.nil
                  rw [if_pos (by rfl)]
                  go_wp2_with (go_at_call 36; refine (HS.out _ ?_).mono ?_; (simp [*]); rintro e w3 ⟨rfl, r0, r1, r2, r3, r4, r5, r6, r7, r8, r9, r10, r11, r12, r13, r14, r15, r16, r17, r18, r19, r20, r21, r22, r23, hb3⟩)
                  refine hK5.out _ _ (by go_keep) (fun hHeld => ?_)
                  clear hK5 K5
                  try simp only [List.getElem_toArray, List.getElem_cons_succ, List.getElem_cons_zero, Act.put, List.setIfInBounds_toArray, List.set_cons_zero, List.set_cons_succ]
                  refine wpAnyH_take (i := 9) (v := _) rfl (by kernel_rfl) (by kernel_rfl) (by kernel_rfl) (fun _ _ _ h => h) (Or.inl ⟨by rfl, fun w5 hSw => (by (try dsimp only at hSw); go_simp; try with_reducible rfl)⟩) hHeld ?_
                  try simp only [List.getElem_toArray, List.getElem_cons_succ, List.getElem_cons_zero, Act.put, List.setIfInBounds_toArray, List.set_cons_zero, List.set_cons_succ]
                  refine wpAnyH_take (i := 10) (v := _) rfl (by kernel_rfl) (by kernel_rfl) (by kernel_rfl) (fun _ _ _ h => h) (Or.inl ⟨by rfl, fun w5 hSw => (by (try dsimp only at hSw); go_simp; try with_reducible rfl)⟩) hHeld ?_
                  try simp only [List.getElem_toArray, List.getElem_cons_succ, List.getElem_cons_zero, Act.put, List.setIfInBounds_toArray, List.set_cons_zero, List.set_cons_succ]
                  refine wpAnyH_take (i := 11) (v := undef) rfl (by kernel_rfl) (by kernel_rfl) (by kernel_rfl) (fun _ _ _ h => h) (Or.inr ⟨by rfl, rfl⟩) hHeld ?_
                  try simp only [List.getElem_toArray, List.getElem_cons_succ, List.getElem_cons_zero, Act.put, List.setIfInBounds_toArray, List.set_cons_zero, List.set_cons_succ]
                  refine wpAnyH_take (i := 12) (v := undef) rfl (by kernel_rfl) (by kernel_rfl) (by kernel_rfl) (fun _ _ _ h => h) (Or.inr ⟨by rfl, rfl⟩) hHeld ?_
                  try simp only [List.getElem_toArray, List.getElem_cons_succ, List.getElem_cons_zero, Act.put, List.setIfInBounds_toArray, List.set_cons_zero, List.set_cons_succ]
                  refine wpAnyH_take (i := 13) (v := undef) rfl (by kernel_rfl) (by kernel_rfl) (by kernel_rfl) (fun _ _ _ h => h) (Or.inr ⟨by rfl, rfl⟩) hHeld ?_
                  try simp only [List.getElem_toArray, List.getElem_cons_succ, List.getElem_cons_zero, Act.put, List.setIfInBounds_toArray, List.set_cons_zero, List.set_cons_succ]
                  refine wpAnyH_take (i := 14) (v := undef) rfl (by kernel_rfl) (by kernel_rfl) (by kernel_rfl) (fun _ _ _ h => h) (Or.inr ⟨by rfl, rfl⟩) hHeld ?_
                  try simp only [List.getElem_toArray, List.getElem_cons_succ, List.getElem_cons_zero, Act.put, List.setIfInBounds_toArray, List.set_cons_zero, List.set_cons_succ]
                  refine wpAnyH_take (i := 15) (v := undef) rfl (by kernel_rfl) (by kernel_rfl) (by kernel_rfl) (fun _ _ _ h => h) (Or.inr ⟨by rfl, rfl⟩) hHeld ?_
                  try simp only [List.getElem_toArray, List.getElem_cons_succ, List.getElem_cons_zero, Act.put, List.setIfInBounds_toArray, List.set_cons_zero, List.set_cons_succ]
                  refine wpAnyH_take (i := 16) (v := undef) rfl (by kernel_rfl) (by kernel_rfl) (by kernel_rfl) (fun _ _ _ h => h) (Or.inr ⟨by rfl, rfl⟩) hHeld ?_
                  try simp only [List.getElem_toArray, List.getElem_cons_succ, List.getElem_cons_zero, Act.put, List.setIfInBounds_toArray, List.set_cons_zero, List.set_cons_succ]
                  refine wpAnyH_take (i := 17) (v := undef) rfl (by kernel_rfl) (by kernel_rfl) (by kernel_rfl) (fun _ _ _ h => h) (Or.inr ⟨by rfl, rfl⟩) hHeld ?_
                  try simp only [List.getElem_toArray, List.getElem_cons_succ, List.getElem_cons_zero, Act.put, List.setIfInBounds_toArray, List.set_cons_zero, List.set_cons_succ]
                  refine wpAnyH_take (i := 18) (v := undef) rfl (by kernel_rfl) (by kernel_rfl) (by kernel_rfl) (fun _ _ _ h => h) (Or.inr ⟨by rfl, rfl⟩) hHeld ?_
                  try simp only [List.getElem_toArray, List.getElem_cons_succ, List.getElem_cons_zero, Act.put, List.setIfInBounds_toArray, List.set_cons_zero, List.set_cons_succ]
                  refine wpAnyH_take (i := 19) (v := undef) rfl (by kernel_rfl) (by kernel_rfl) (by kernel_rfl) (fun _ _ _ h => h) (Or.inr ⟨by rfl, rfl⟩) hHeld ?_
                  try simp only [List.getElem_toArray, List.getElem_cons_succ, List.getElem_cons_zero, Act.put, List.setIfInBounds_toArray, List.set_cons_zero, List.set_cons_succ]
                  refine wpAnyH_take (i := 20) (v := undef) rfl (by kernel_rfl) (by kernel_rfl) (by kernel_rfl) (fun _ _ _ h => h) (Or.inr ⟨by rfl, rfl⟩) hHeld ?_
                  try simp only [List.getElem_toArray, List.getElem_cons_succ, List.getElem_cons_zero, Act.put, List.setIfInBounds_toArray, List.set_cons_zero, List.set_cons_succ]
                  refine wpAnyH_take (i := 21) (v := undef) rfl (by kernel_rfl) (by kernel_rfl) (by kernel_rfl) (fun _ _ _ h => h) (Or.inr ⟨by rfl, rfl⟩) hHeld ?_
                  try simp only [List.getElem_toArray, List.getElem_cons_succ, List.getElem_cons_zero, Act.put, List.setIfInBounds_toArray, List.set_cons_zero, List.set_cons_succ]
                  refine wpAnyH_take (i := 22) (v := _) rfl (by kernel_rfl) (by kernel_rfl) (by kernel_rfl) (fun _ _ _ h => h) (Or.inl ⟨by rfl, fun w5 hSw => (by (try dsimp only at hSw); go_simp; try with_reducible rfl)⟩) hHeld ?_
                  try simp only [List.getElem_toArray, List.getElem_cons_succ, List.getElem_cons_zero, Act.put, List.setIfInBounds_toArray, List.set_cons_zero, List.set_cons_succ]
                  refine wpAnyH_take (i := 23) (v := _) rfl (by kernel_rfl) (by kernel_rfl) (by kernel_rfl) (fun _ _ _ h => h) (Or.inl ⟨by rfl, fun w5 hSw => (by (try dsimp only at hSw); go_simp; try with_reducible rfl)⟩) hHeld ?_
                  try simp only [List.getElem_toArray, List.getElem_cons_succ, List.getElem_cons_zero, Act.put, List.setIfInBounds_toArray, List.set_cons_zero, List.set_cons_succ]
                  refine wpAnyH_done (by kernel_rfl) ?_ _
                  go_wp2_with fail
                  go_meet
                  case rel => exact ⟨by rw [HO3.out], Lib.hid hb3⟩
                | true =>
                  have HS := HS0
                  rw [hs] at HS
                  by_cases hn : x.same = y.same
                  · have HO3 := Lib.hid (othB_s hs hn)
                    have hq : (x.same != y.same) = false := by rw [hn]; simp
                    clear hs HS0 hn
                    go_region_held3 (fun w' => w'.cell? ⟨b1, o1 + i * 12, none⟩ = some (.string x.path) ∧ w'.cell? ⟨b1, o1 + i * 12 + 1, none⟩ = some (.int .i64 x.kind) ∧ w'.cell? ⟨b1, o1 + i * 12 + 2, none⟩ = some (.int .i64 x.same) ∧ w'.cell? ⟨b1, o1 + i * 12 + 3, none⟩ = some (.string x.target) ∧ w'.cell? ⟨b1, o1 + i * 12 + 4, none⟩ = some (.int .i64 x.mt.mode) ∧ w'.cell? ⟨b1, o1 + i * 12 + 5, none⟩ = some (.int .i64 x.mt.uid) ∧ w'.cell? ⟨b1, o1 + i * 12 + 6, none⟩ = some (.int .i64 x.mt.gid) ∧ w'.cell? ⟨b1, o1 + i * 12 + 7, none⟩ = some (.string x.mt.user) ∧ w'.cell? ⟨b1, o1 + i * 12 + 8, none⟩ = some (.string x.mt.group) ∧ w'.cell? ⟨b1, o1 + i * 12 + 9, none⟩ = some (.int .i64 x.mt.second) ∧ w'.cell? ⟨b1, o1 + i * 12 + 10, none⟩ = some (.int .i64 x.mt.nano) ∧ w'.cell? ⟨b1, o1 + i * 12 + 11, none⟩ = some (.slice x.da x.data.length x.dcap) ∧ w'.cell? ⟨b2, o2 + j * 12, none⟩ = some (.string y.path) ∧ w'.cell? ⟨b2, o2 + j * 12 + 1, none⟩ = some (.int .i64 y.kind) ∧ w'.cell? ⟨b2, o2 + j * 12 + 2, none⟩ = some (.int .i64 y.same) ∧ w'.cell? ⟨b2, o2 + j * 12 + 3, none⟩ = some (.string y.target) ∧ w'.cell? ⟨b2, o2 + j * 12 + 4, none⟩ = some (.int .i64 y.mt.mode) ∧ w'.cell? ⟨b2, o2 + j * 12 + 5, none⟩ = some (.int .i64 y.mt.uid) ∧ w'.cell? ⟨b2, o2 + j * 12 + 6, none⟩ = some (.int .i64 y.mt.gid) ∧ w'.cell? ⟨b2, o2 + j * 12 + 7, none⟩ = some (.string y.mt.user) ∧ w'.cell? ⟨b2, o2 + j * 12 + 8, none⟩ = some (.string y.mt.group) ∧ w'.cell? ⟨b2, o2 + j * 12 + 9, none⟩ = some (.int .i64 y.mt.second) ∧ w'.cell? ⟨b2, o2 + j * 12 + 10, none⟩ = some (.int .i64 y.mt.nano) ∧ w'.cell? ⟨b2, o2 + j * 12 + 11, none⟩ = some (.slice y.da y.data.length y.dcap) ∧ Below wc.heap.size wc w') (go_keep)
                      (first | (go_at_call 36; refine (HS.out _ ?_).mono ?_; (simp [*]); rintro e w3 ⟨rfl, r0, r1, r2, r3, r4, r5, r6, r7, r8, r9, r10, r11, r12, r13, r14, r15, r16, r17, r18, r19, r20, r21, r22, r23, hb3⟩))
                    go_wp2_with fail
                    go_meet
                    case rel => exact ⟨by rw [HO3.out], Lib.hid hb3⟩
                  · have HO3 := Lib.hid (othB_n hn)
                    have hq : (x.same != y.same) = true := by rw [bne_iff_ne]; exact hn
                    clear hs HS0 hn
                    go_region_held3 (fun w' => w'.cell? ⟨b1, o1 + i * 12, none⟩ = some (.string x.path) ∧ w'.cell? ⟨b1, o1 + i * 12 + 1, none⟩ = some (.int .i64 x.kind) ∧ w'.cell? ⟨b1, o1 + i * 12 + 2, none⟩ = some (.int .i64 x.same) ∧ w'.cell? ⟨b1, o1 + i * 12 + 3, none⟩ = some (.string x.target) ∧ w'.cell? ⟨b1, o1 + i * 12 + 4, none⟩ = some (.int .i64 x.mt.mode) ∧ w'.cell? ⟨b1, o1 + i * 12 + 5, none⟩ = some (.int .i64 x.mt.uid) ∧ w'.cell? ⟨b1, o1 + i * 12 + 6, none⟩ = some (.int .i64 x.mt.gid) ∧ w'.cell? ⟨b1, o1 + i * 12 + 7, none⟩ = some (.string x.mt.user) ∧ w'.cell? ⟨b1, o1 + i * 12 + 8, none⟩ = some (.string x.mt.group) ∧ w'.cell? ⟨b1, o1 + i * 12 + 9, none⟩ = some (.int .i64 x.mt.second) ∧ w'.cell? ⟨b1, o1 + i * 12 + 10, none⟩ = some (.int .i64 x.mt.nano) ∧ w'.cell? ⟨b1, o1 + i * 12 + 11, none⟩ = some (.slice x.da x.data.length x.dcap) ∧ w'.cell? ⟨b2, o2 + j * 12, none⟩ = some (.string y.path) ∧ w'.cell? ⟨b2, o2 + j * 12 + 1, none⟩ = some (.int .i64 y.kind) ∧ w'.cell? ⟨b2, o2 + j * 12 + 2, none⟩ = some (.int .i64 y.same) ∧ w'.cell? ⟨b2, o2 + j * 12 + 3, none⟩ = some (.string y.target) ∧ w'.cell? ⟨b2, o2 + j * 12 + 4, none⟩ = some (.int .i64 y.mt.mode) ∧ w'.cell? ⟨b2, o2 + j * 12 + 5, none⟩ = some (.int .i64 y.mt.uid) ∧ w'.cell? ⟨b2, o2 + j * 12 + 6, none⟩ = some (.int .i64 y.mt.gid) ∧ w'.cell? ⟨b2, o2 + j * 12 + 7, none⟩ = some (.string y.mt.user) ∧ w'.cell? ⟨b2, o2 + j * 12 + 8, none⟩ = some (.string y.mt.group) ∧ w'.cell? ⟨b2, o2 + j * 12 + 9, none⟩ = some (.int .i64 y.mt.second) ∧ w'.cell? ⟨b2, o2 + j * 12 + 10, none⟩ = some (.int .i64 y.mt.nano) ∧ w'.cell? ⟨b2, o2 + j * 12 + 11, none⟩ = some (.slice y.da y.data.length y.dcap) ∧ Below wc.heap.size wc w') (go_keep)
                      (first | (go_at_call 36; refine (HS.out _ ?_).mono ?_; (simp [*]); rintro e w3 ⟨rfl, r0, r1, r2, r3, r4, r5, r6, r7, r8, r9, r10, r11, r12, r13, r14, r15, r16, r17, r18, r19, r20, r21, r22, r23, hb3⟩))
                    go_wp2_with fail
                    go_meet
                    case rel => exact ⟨by rw [HO3.out], Lib.hid hb3⟩
              case rest =>
                obtain ⟨rfl, HB9⟩ := hcut
                clear HS0 hbw h0 h1 h2 h3 h4 h5 h6 h7 h8 h9 h10 h11 g0 g1 g2 g3 g4 g5' g6 g7 g8 g9 g10 g11 HOW HWB
                have HOW := Lib.hid (HOC.out.below HB9.out)
                have HWB := Lib.hid (HWC.out.trans (HB9.out.mono HWC.out.size))
                cases ho : othB x y with
                | true =>
                  have HF1 := Lib.hid (show ∀ n : Nod, n.bare = y.bare → [(⟨3, n⟩ : Chg)].map Chg.bare = dd.map Chg.bare from fun n hn => by rw [HD1.out]; exact othN_bare hn (othB_iff ho))
                  clear ho
                  have hsl := fun W => run_oneN W b2 o2 b.length cp2 j hjb hcl2
                  have HS1 := Lib.hid (nods_below HSY.out HB9.out)
                  go_wp2_with fail
                  refine (CopyRG_any _ [y] _ HS1.out (by simp) (by simp) (list_dat (fun z hz => by rw [List.mem_singleton.1 hz]; exact hyd))).mono ?_
                  rintro e w8 ⟨v8, c8, rfl, ho8, hc8, hb8, hf8⟩
                  obtain ⟨n8, rfl⟩ : ∃ n8, c8 = [n8] := List.length_eq_one_iff.1 (bare_len hc8)
                  obtain ⟨g8, cp8, rfl⟩ := ownsRow_form (n := 0) ho8.1
                  have HN8 := Lib.hid (by have e := ho8.nodAt (k := 0) (by simp); rw [Nat.zero_mul] at e; exact e)
                  obtain ⟨m0, m1, m2, m3, m4, m5, m6, m7, m8, m9, m10, m11⟩ := HN8.out.zero
                  have HC8 := Lib.hid (show n8.bare = y.bare by simpa using hc8)
                  have HW8 := Lib.hid (HWB.out.trans (hb8.mono HWB.out.size))
                  have HO8 := Lib.hid (HOW.out.below hb8)
                  have HK8 := Lib.hid (show ChgIn w8 vo ⟨3, n8⟩ from ⟨(show i64 3 from by unfold i64; omega), (ho8.2 n8 (by simp)).1, fun q hp hq e => by
                    have h1 := hf8 n8 (by simp) q hq
                    have h2 := (World.ownsRow.lt HOW.out.1 _ e).2
                    omega⟩)
                  have HB8 := Lib.hid (show n8.data.length ≤ maxLen by obtain ⟨_, _, _, _, _, h, _⟩ := (ho8.2 n8 (by simp)).1.data; exact h)
                  have HA8 := Lib.hid (HW8.out.alloc HW8.out.size (.cells #[.int .i64 3, .string n8.path, .int .i64 n8.kind, .int .i64 n8.same, .string n8.target, .int .i64 n8.mt.mode, .int .i64 n8.mt.uid, .int .i64 n8.mt.gid, .string n8.mt.user, .string n8.mt.group, .int .i64 n8.mt.second, .int .i64 n8.mt.nano, .slice n8.da n8.data.length n8.dcap] 62))
                  have HP8 := Lib.hid ((Below.refl w8.heap.size w8).alloc (Nat.le_refl _) (.cells #[.int .i64 3, .string n8.path, .int .i64 n8.kind, .int .i64 n8.same, .string n8.target, .int .i64 n8.mt.mode, .int .i64 n8.mt.uid, .int .i64 n8.mt.gid, .string n8.mt.user, .string n8.mt.group, .int .i64 n8.mt.second, .int .i64 n8.mt.nano, .slice n8.da n8.data.length n8.dcap] 62))
                  have HO9 := Lib.hid (HO8.out.below HP8.out)
                  clear ho8 hc8 hb8 hf8
                  go_wp2_with (at_builtin; refine wpList_app _ rfl (.tmp 120) (.tmp 130) 23 23 rfl _ _ rfl rfl (fun ty => app_src _ 23 23 ty w5.heap.size 62 i0 _ 13 152 Tryd.underlying23 HI.out.1 HI.out.2.1 HI.out.2.2.1 HI.out.2.2.2 rfl (by decide) _ _ o.length 1 _ _ HO9.out.1 (src_chg w8 rfl _ _ _ Tryd.underlying23 3 n8) (by unfold maxLen; omega) (by omega) HA8.out.size) ?_; intro v9 w9 ho2 hg2 hv2; have HZ := Lib.hid (And.intro ho2 (And.intro hg2 hv2.2)); clear ho2 hg2 hv2)
                  have HO10 := Lib.hid (HO9.out.app (m := [⟨3, n8⟩]) (fun y hy => by rw [List.mem_singleton.1 hy]; exact HK8.out.below HP8.out) HZ.out.1 HZ.out.2.1 HZ.out.2.2)
                  have HB10 := Lib.hid (below_app HA8.out HZ.out.2.1 HO9.out.1 HA8.out.size)
                  go_roundw
                  case rel => exact ⟨q + 1, _, _, by omega, by go_num, rfl, Lib.hid (HST.out _ (HF1.out n8 HC8.out)), HO10, HB10⟩
                  case measure => simp [intOf]; omega
                | false =>
                  have HF1 := Lib.hid (show ([] : List Chg).map Chg.bare = dd.map Chg.bare by rw [HD1.out, othN_same (othB_no ho)])
                  clear ho
                  go_wp2
                  go_roundw
                  case rel => exact ⟨q + 1, _, o, by omega, by go_num, rfl, Lib.hid (by have e := HST.out [] HF1.out; simpa using e), HOW, HWB⟩
                  case measure => simp [intOf]; omega
        · obtain rfl : q = c.length := by omega
          have HDN := Lib.hid (HR.out.done HC5.out HOA.out HOB.out)
          go_wp2
          go_ret2
          exact ⟨_, o, rfl, HOW.out.mono HB5.out.size, HDN.out, HWB.out⟩
set_option maxRecDepth 100000 in
set_option maxHeartbeats 1000000 in
theorem DiffR_any (v1 v2 : Value) (a b : List Nod) (w : World) (ha : SliceC maxLen 12 (NodC maxLen) w [v1] a) (hb : SliceC maxLen 12 (NodC maxLen) w [v2] b) :
    Calls Tryd.prog 10 #[v1, v2] w (RetCE tChg w (diffOf a b)) := by
  by_cases hEA : treeFault a = 0
  · by_cases hEB : treeFault b = 0
    · rw [diffOf_ok hEA hEB]
      exact DiffR_ok v1 v2 a b w ha hb hEA hEB
    · rw [diffOf_b hEA hEB]
      have HSB := Lib.hid hb
      have HCA := Lib.hid (TreeFault_any v1 a w ha)
      rw [hEA] at HCA
      have HCB := Lib.hid (fun w h => TreeFault_any v2 b w h)
      generalize treeFault b = q at *
      have hq : (q == 0) = false := by rw [beq_eq_false_iff_ne]; exact hEB
      clear ha hb hEA hEB
      go_enter Tryd.func10, Tryd.ntmps10
      go_wp2_with fail
      refine HCA.out.mono ?_
      rintro e w1 ⟨rfl, hb⟩
      have HB1 := Lib.hid hb
      clear hb
      go_wp2_with fail
      refine (HCB.out _ (nods_below HSB.out HB1.out)).mono ?_
      rintro e w2 ⟨rfl, hb⟩
      have HB2 := Lib.hid (HB1.out.trans (hb.mono HB1.out.size))
      clear hb
      go_wp2
      go_ret2
      exact ⟨_, [], rfl, OwnChgs.nil _ _ _, rfl, HB2.out⟩
  · rw [diffOf_a hEA]
    have HCA := Lib.hid (TreeFault_any v1 a w ha)
    generalize treeFault a = q at *
    have hq : (q == 0) = false := by rw [beq_eq_false_iff_ne]; exact hEA
    clear ha hb hEA
    go_enter Tryd.func10, Tryd.ntmps10
    go_wp2_with fail
    refine HCA.out.mono ?_
    rintro e w1 ⟨rfl, hb⟩
    have HB1 := Lib.hid hb
    clear hb
    go_wp2
    go_ret2
    exact ⟨_, [], rfl, OwnChgs.nil _ _ _, rfl, HB1.out⟩
end Go.Proofs.YtaffgndickdbiaaDoor
