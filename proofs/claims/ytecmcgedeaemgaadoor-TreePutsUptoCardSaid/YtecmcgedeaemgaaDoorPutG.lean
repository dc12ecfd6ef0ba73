/-
  tree.Put, walked.
-/
import Derived.Test.YtecmcgedeaemgaaDoorPutL
import Derived.Test.YtecmcgedeaemgaaDoorCopyLF
namespace Go.Creel
set_option linter.unusedVariables false
set_option linter.unusedSimpArgs false
open Go.RowKit
theorem addr_zero (a : Option Addr) : a.map (·.add 0) = a := by cases a <;> simp [Addr.add]
theorem nods_val {w : World} {v : Value} {l : List Nod} (h : SliceC maxLen 12 (NodC maxLen) w [v] l) : ∃ a cap, v = .slice a l.length cap ∧ l.length ≤ cap ∧ cap ≤ maxLen := by
  obtain ⟨a, cap, hv, h1, h2, _⟩ := h
  exact ⟨a, cap, by simpa using hv, h1, h2⟩
theorem box_slice {w : World} {x : Nod} {t : TypeId} (hx : x.Ok maxLen w) : SliceC maxLen 12 (NodC maxLen) (w.alloc (.cells #[.string x.path, .int .i64 x.kind, .int .i64 x.same, .string x.target, .int .i64 x.mt.mode, .int .i64 x.mt.uid, .int .i64 x.mt.gid, .string x.mt.user, .string x.mt.group, .int .i64 x.mt.second, .int .i64 x.mt.nano, .slice x.da x.data.length x.dcap] t)) [.slice (some ⟨w.heap.size, 0, none⟩) 1 1] [x] := by
  refine ⟨some ⟨w.heap.size, 0, none⟩, 1, rfl, Nat.le_refl _, by unfold maxLen; omega, by unfold maxLen; simp, (fun h => by cases h), fun _ => ⟨w.heap.size, 0, rfl, fun i hi => ?_⟩⟩
  obtain rfl : i = 0 := by simp at hi; omega
  refine ⟨x.cells, rfl, fun j hj => ?_, rfl, hx.below ((Below.refl _ _).alloc (Nat.le_refl _) _)⟩
  have hz : 0 + 0 * 12 + j = j := by omega
  rw [hz, World.cell?_alloc_new]
  simp [Nod.cells]
/-- nodes whose bytes are new may lie in an older row -/
theorem fresh_in {t : TypeId} {w w0 : World} {B : Nat} {v : Value} {c m : List Nod} (hown : OwnNods t w B v c) (hm : ∀ x ∈ m, x.Ok maxLen w) (hf : ∀ x ∈ m, ∀ a, x.da = some a → w0.heap.size ≤ a.block) (hv : ∀ b, v.ownBlock = some b → b < w0.heap.size) : ∀ x, x ∈ m → NodIn w v x := by
  intro x hx
  refine ⟨hm x hx, fun a hp ha he => ?_⟩
  have h1 := hf x hx a ha
  have h2 := hv _ he
  omega
theorem OwnNods.blk {t : TypeId} {w : World} {B : Nat} {v : Value} {l : List Nod} (h : OwnNods t w B v l) : ∀ b, v.ownBlock = some b → b < w.heap.size := by
  intro b hb
  rcases h.form with ⟨rfl, _⟩ | ⟨g, cap, rfl, _, hg, _⟩
  · simp [Value.ownBlock] at hb
  · simp [Value.ownBlock] at hb; omega
theorem OwnNods.oks {t : TypeId} {w : World} {B : Nat} {v : Value} {l : List Nod} (h : OwnNods t w B v l) : ∀ x ∈ l, x.Ok maxLen w := fun x hx => (h.2 x hx).1
theorem list_dat {l : List Nod} (h : ∀ x ∈ l, x.data.length ≤ 140737488355328) : ∀ i, i < l.length → (nk l i).data.length ≤ 140737488355328 := fun i hi => by rw [nk_eq hi]; exact h _ (List.getElem_mem hi)
theorem dat_list {l : List Nod} (h : ∀ i, i < l.length → (nk l i).data.length ≤ 140737488355328) : ∀ x ∈ l, x.data.length ≤ 140737488355328 := fun x hx => by
  obtain ⟨i, hi, rfl⟩ := List.mem_iff_getElem.1 hx
  rw [← nk_eq hi]; exact h i hi
end Go.Creel
namespace Go.Proofs.YtecmcgedeaemgaaDoor
set_option linter.unusedVariables false
set_option linter.unusedSimpArgs false
open Go.Creel Go.RowKit
set_option maxRecDepth 100000 in
theorem BinSearch_nil (a : Option Addr) (cap : Nat) (s : ByteArray) (f : Value) (w : World) :
    Calls Tryd.prog 79 #[.slice a 0 cap, .string s, f] w fun e w' => e = .returned (.tuple #[.int .i64 0, .bool false]) ∧ w = w' := by
  go_enter Tryd.func79, Tryd.ntmps79
  go_wp2
  go_loop [9, 10, 11] (fun v9 v10 _ => v9 = .int .i64 0 ∧ v10 = .int .i64 0) (fun _ _ _ => 0)
  case atStart => exact ⟨rfl, rfl⟩
  case round =>
    obtain ⟨rfl, rfl⟩ := hrel
    go_wp2
    go_ret2
    exact ⟨rfl, rfl⟩
theorem BinSearch_any (v : Value) (l : List Nod) (s : ByteArray) (w : World) (hM : MaxOk w) (hs : s.size ≤ 1048576) (h : SliceC maxLen 12 (NodC maxLen) w [v] l) (hE : treeFault l = 0) :
    Calls Tryd.prog 79 #[v, .string s, .func (.func 80) #[] #[]] w fun e w' => e = .returned (.tuple #[.int .i64 (posN l s), .bool (isAt l s)]) ∧ Below w.heap.size w w' := by
  rcases nods_cases h with ⟨a, cap, rfl, rfl, _⟩ | ⟨b, off, cap, rfl, h1, h2, h3, h6, h4, h5⟩
  · exact (BinSearch_nil a cap s _ w).mono fun e w' ⟨h1, h2⟩ => ⟨h1, by rw [← h2]; exact Below.refl _ _⟩
  · exact BinSearch_at b off cap l.length l s w hM hs rfl h2 h3 h4 (treeP_iff.1 hE).ord (fun k hk => Nat.le_trans (nodFault_size ((treeFault_all hE).2 k hk)) (by omega)) (treeFault_all hE).1
theorem run_takeN (w : World) (a : Option Addr) (n cap i : Nat) (h : i ≤ n) (hc : n ≤ cap) : (Instr.slice 40 (.slice a n cap) none (some (.int .i64 i)) none).run Tryd.prog w = .ok (.slice a i cap) w := by
  rw [run_slice_h w 40 a n cap (by kernel_rfl) .i64 i (by omega) (by omega)]
  have hs : (sizeOf (Tryd.prog.elem 40)).run Tryd.prog w = .ok 12 w := by kernel_rfl
  rw [hs]
  simp only [Result.andThen, sliced, Int.toNat_natCast, Nat.zero_mul, addr_zero, ite_self, Nat.sub_zero]
theorem run_dropN (w : World) (a : Option Addr) (n cap i : Nat) (h : i ≤ n) (hc : n ≤ cap) : (Instr.slice 40 (.slice a n cap) (some (.int .i64 i)) none none).run Tryd.prog w = .ok (sliced a i n cap 12) w := by
  rw [run_slice_l w 40 a n cap (by kernel_rfl) .i64 i (by omega) (by omega)]
  have hs : (sizeOf (Tryd.prog.elem 40)).run Tryd.prog w = .ok 12 w := by kernel_rfl
  rw [hs]
  simp only [Result.andThen, Int.toNat_natCast]
set_option maxRecDepth 100000 in
set_option maxHeartbeats 4000000 in
theorem PutL_ok (v : Value) (l : List Nod) (n : Nod) (w : World) (hM : MaxOk w) (h : SliceC maxLen 12 (NodC maxLen) w [v] l) (hn : n.Ok maxLen w) (hns : n.path.size ≤ 1048576) (hnd : n.data.length ≤ 140737488355328) (hE : treeFault l = 0) :
    Calls Tryd.prog 33 #[v, n.val] w (RetTE 48 w (treePut l n)) := by
  obtain ⟨i0, hi, hz0, hz1, hz2⟩ := info_parts info_node
  have HI := Lib.hid (And.intro hi (And.intro hz0 (And.intro hz1 hz2)))
  have HBX := Lib.hid ((Below.refl w.heap.size w).alloc (Nat.le_refl _) (boxOf n))
  have HNB := Lib.hid (nodAt_box w n 48)
  have HM := Lib.hid (hM.below HBX.out)
  have H := Lib.hid (nods_below h HBX.out)
  have HN := Lib.hid hn
  obtain ⟨a, cap, rfl, hcl, hcm⟩ := nods_val h
  have hfew := (treeFault_all hE).1
  have HDT := Lib.hid (dat_list (treeFault_dat hE))
  have HCK := Lib.hid (fun w hM (h : SliceC maxLen 12 (NodC maxLen) w [.slice a l.length cap] l) => TreeCheck_any _ l w hM h)
  rw [hE] at HCK
  have HBS := Lib.hid (fun w hM (h : SliceC maxLen 12 (NodC maxLen) w [.slice a l.length cap] l) => BinSearch_any _ l n.path w hM hns h hE)
  have hil := posN_le l n.path
  have HAT := Lib.hid (fun (h : isAt l n.path = true) => show posN l n.path < l.length from (of_decide_eq_true h).1)
  have HPE := Lib.hid (putL_eq (n := n) (treeP_iff.1 hE).ord)
  have HT1 := Lib.hid (fun h => treePut_new (n := n) hE h)
  have HT2 := Lib.hid (fun h => treePut_ok (n := n) hE h)
  have hput := putL_len l n
  generalize posN l n.path = i at *
  generalize isAt l n.path = fd at *
  have hst := fun w => run_takeN w a l.length cap i hil hcl
  have hzero : 0 < (1 : Nat) := by omega
  have HMW := Lib.hid hM
  have HWH := Lib.hid h
  clear h hM hn hns hE hi hz0 hz1 hz2
  have HND := Lib.hid hnd
  clear hnd
  unfold maxLen at hcm
  go_enter Tryd.func33, Tryd.ntmps33
  go_wp2_with fail
  refine (HCK.out _ HM.out H.out).mono ?_
  rintro e w1 ⟨rfl, hb⟩
  have HB1 := Lib.hid (HBX.out.trans (hb.mono (by simp)))
  have HM1 := Lib.hid (HM.out.below hb)
  have H1 := Lib.hid (nods_below H.out hb)
  have HNB1 := Lib.hid (HNB.out.below hb)
  obtain ⟨n0, _⟩ := HNB1.out.zero
  clear hb
  go_wp2_with fail
  refine (HBS.out _ HM1.out H1.out).mono ?_
  rintro e w2 ⟨rfl, hb⟩
  have HB2 := Lib.hid (HB1.out.trans (hb.mono HB1.out.size))
  have HM2 := Lib.hid (HM1.out.below hb)
  have H2 := Lib.hid (nods_below H1.out hb)
  have HNB2 := Lib.hid (HNB1.out.below hb)
  clear hb n0
  have hti : (l.take i).length = i := by rw [List.length_take]; omega
  go_wp2_with fail
  refine (CopyLF_any (.slice a i cap) (l.take i) _ (nods_take H2.out hil) (by omega) (list_dat (fun x hx => HDT.out x (List.mem_of_mem_take hx)))).mono ?_
  rintro e w3 ⟨v3, c1, rfl, ho, hbr, hb, _⟩
  have HB3 := Lib.hid (HB2.out.trans (hb.mono HB2.out.size))
  have HM3 := Lib.hid (HM2.out.below hb)
  have H3 := Lib.hid (nods_below H2.out hb)
  have HNB3 := Lib.hid (HNB2.out.below hb)
  have HO3 := Lib.hid (ho.mono HB2.out.size)
  have HC1 := Lib.hid hbr
  have hc1 : c1.length = i := by rw [← hti]; exact bare_len hbr
  clear ho hb hbr
  obtain ⟨m0, m1, m2, m3, m4, m5, m6, m7, m8, m9, m10, m11⟩ := HNB3.out.zero
  have HBB := Lib.hid ((Below.refl w3.heap.size w3).alloc (Nat.le_refl _) (boxOf n))
  have HSB := Lib.hid (box_slice (t := 48) (HN.out.below HB3.out))
  go_wp2_with fail
  refine (CopyLF_any _ [n] _ HSB.out (by simp) (list_dat (fun x hx => by rw [List.mem_singleton.1 hx]; exact HND.out))).mono ?_
  rintro e w4 ⟨v4, c2, rfl, ho, hbr, hb, hfr⟩
  have HB34 := Lib.hid (HBB.out.trans (hb.mono HBB.out.size))
  have HB4 := Lib.hid (HB3.out.trans (HB34.out.mono HB3.out.size))
  have HM4 := Lib.hid (HM3.out.below HB34.out)
  have H4 := Lib.hid (nods_below H3.out HB34.out)
  have HO4 := Lib.hid (HO3.out.below HB34.out)
  have hc2 : c2.length = 1 := bare_len hbr
  have HS4 := Lib.hid (ho.slice (by unfold maxLen; omega))
  have HIN4 := Lib.hid (fresh_in (w0 := w3) HO4.out ho.oks (fun x hx a ha => by have := hfr x hx a ha; simp at this; omega) HO3.out.blk)
  have HC2 := Lib.hid hbr
  clear ho hb hbr hfr m0 m1 m2 m3 m4 m5 m6 m7 m8 m9 m10 m11
  go_upto_region 7 with (at_builtin; refine wpList_app _ rfl (.tmp 27) (.tmp 30) 40 40 rfl _ _ rfl rfl (fun ty => app_src _ 40 40 ty w.heap.size 48 i0 _ 12 144 Tryd.underlying40 HI.out.1 HI.out.2.1 HI.out.2.2.1 HI.out.2.2.2 rfl (by decide) _ _ c1.length c2.length _ _ HO4.out.1 (src_nods Tryd.underlying40 HS4.out) (by unfold maxLen; omega) (by omega) HB4.out.size) ?_; intro v5 w5 ho2 hg2 hv2; have HZ := Lib.hid (And.intro ho2 (And.intro hg2 hv2.2)); clear ho2 hg2 hv2)
  have HO5 := Lib.hid (HO4.out.app HIN4.out HZ.out.1 HZ.out.2.1 HZ.out.2.2)
  have HB45 := Lib.hid HZ.out.2.1
  have HB5 := Lib.hid (below_app HB4.out HZ.out.2.1 HO4.out.1 HB4.out.size)
  have H5 := Lib.hid (nods_below HWH.out HB5.out)
  have HM5 := Lib.hid (HMW.out.below HB5.out)
  cases fd with
  | true =>
    have hlt := HAT.out rfl
    have hdr : ∀ w, (Instr.slice 40 (.slice a l.length cap) (some (.int .i64 ((i : Int) + 1))) none none).run Tryd.prog w = .ok (sliced a (i + 1) l.length cap 12) w := fun w => run_dropN w a l.length cap (i + 1) (by omega) hcl
    have HS5 := Lib.hid (nods_drop H5.out (i := (i + 1)) (by omega))
    have hld : (l.drop (i + 1)).length = l.length - (i + 1) := List.length_drop
    have HPL := Lib.hid (show putL l n = l.take i ++ n :: l.drop (i + 1) by rw [HPE.out]; rfl)
    generalize sliced a (i + 1) l.length cap 12 = u at *
    go_wp2_with fail
    refine (CopyLF_any u (l.drop (i + 1)) _ HS5.out (by omega) (list_dat (fun x hx => HDT.out x (List.mem_of_mem_drop hx)))).mono ?_
    rintro e w6 ⟨v6, c3, rfl, ho, hbr, hb, hfr⟩
    have HB6 := Lib.hid (HB5.out.trans (hb.mono HB5.out.size))
    have HM6 := Lib.hid (HM5.out.below hb)
    have HO6 := Lib.hid (HO5.out.below hb)
    have hc3 : c3.length = l.length - (i + 1) := by rw [← hld]; exact bare_len hbr
    have HS6 := Lib.hid (ho.slice (by unfold maxLen; omega))
    have HIN6 := Lib.hid (fresh_in (w0 := w5) HO6.out ho.oks hfr HO5.out.blk)
    have HBR := Lib.hid (show (c1 ++ c2 ++ c3).map Nod.bare = (putL l n).map Nod.bare by
      rw [HPL.out, List.map_append, List.map_append, HC1.out, HC2.out, hbr, List.map_append, List.map_cons, List.append_assoc]; rfl)
    clear ho hb hbr hfr
    go_upto_region 10 with (at_builtin; refine wpList_app _ rfl (.tmp 35) (.tmp 39) 40 40 rfl _ _ rfl rfl (fun ty => app_src _ 40 40 ty w.heap.size 48 i0 _ 12 144 Tryd.underlying40 HI.out.1 HI.out.2.1 HI.out.2.2.1 HI.out.2.2.2 rfl (by decide) _ _ (c1 ++ c2).length c3.length _ _ HO6.out.1 (src_nods Tryd.underlying40 HS6.out) (by rw [List.length_append]; unfold maxLen; omega) (by rw [List.length_append]; omega) HB6.out.size) ?_; intro v7 w7 ho2 hg2 hv2; have HZ2 := Lib.hid (And.intro ho2 (And.intro hg2 hv2.2)); clear ho2 hg2 hv2)
    have HO7 := Lib.hid (HO6.out.app HIN6.out HZ2.out.1 HZ2.out.2.1 HZ2.out.2.2)
    have HB7 := Lib.hid (below_app HB6.out HZ2.out.2.1 HO6.out.1 HB6.out.size)
    have HM7 := Lib.hid (HMW.out.below HB7.out)
    have HCK2 := Lib.hid (TreeCheck_any v7 _ w7 HM7.out (HO7.out.slice (by rw [List.length_append, List.length_append]; unfold maxLen; omega)))
    rw [treeFault_eq HBR.out] at HCK2
    by_cases hT : treeFault (putL l n) = 0
    · have HF := Lib.hid (HT2.out hT)
      rw [hT] at HCK2
      clear hT
      go_wp2_with fail
      refine HCK2.out.mono ?_
      rintro e w8 ⟨rfl, hb⟩
      have HB8 := Lib.hid (HB7.out.trans (hb.mono HB7.out.size))
      have HO8 := Lib.hid (HO7.out.below hb)
      clear hb
      go_wp2
      go_ret2
      rw [HF.out]
      exact ⟨_, _, rfl, HO8.out, HBR.out, HB8.out⟩
    · have HF := Lib.hid (HT1.out hT)
      generalize treeFault (putL l n) = tf at *
      have hq : (tf == 0) = false := by rw [beq_eq_false_iff_ne]; exact hT
      clear hT
      go_wp2_with fail
      refine HCK2.out.mono ?_
      rintro e w8 ⟨rfl, hb⟩
      have HB8 := Lib.hid (HB7.out.trans (hb.mono HB7.out.size))
      clear hb
      go_wp2
      go_ret2
      rw [HF.out]
      exact ⟨_, [], rfl, OwnNods.nil _ _ _, rfl, HB8.out⟩
  | false =>
    have hdr : ∀ w, (Instr.slice 40 (.slice a l.length cap) (some (.int .i64 (i : Int))) none none).run Tryd.prog w = .ok (sliced a i l.length cap 12) w := fun w => run_dropN w a l.length cap i (by omega) hcl
    have HS5 := Lib.hid (nods_drop H5.out (i := i) (by omega))
    have hld : (l.drop i).length = l.length - i := List.length_drop
    have HPL := Lib.hid (show putL l n = l.take i ++ n :: l.drop i by rw [HPE.out]; rfl)
    generalize sliced a i l.length cap 12 = u at *
    go_wp2_with fail
    refine (CopyLF_any u (l.drop i) _ HS5.out (by omega) (list_dat (fun x hx => HDT.out x (List.mem_of_mem_drop hx)))).mono ?_
    rintro e w6 ⟨v6, c3, rfl, ho, hbr, hb, hfr⟩
    have HB6 := Lib.hid (HB5.out.trans (hb.mono HB5.out.size))
    have HM6 := Lib.hid (HM5.out.below hb)
    have HO6 := Lib.hid (HO5.out.below hb)
    have hc3 : c3.length = l.length - i := by rw [← hld]; exact bare_len hbr
    have HS6 := Lib.hid (ho.slice (by unfold maxLen; omega))
    have HIN6 := Lib.hid (fresh_in (w0 := w5) HO6.out ho.oks hfr HO5.out.blk)
    have HBR := Lib.hid (show (c1 ++ c2 ++ c3).map Nod.bare = (putL l n).map Nod.bare by
      rw [HPL.out, List.map_append, List.map_append, HC1.out, HC2.out, hbr, List.map_append, List.map_cons, List.append_assoc]; rfl)
    clear ho hb hbr hfr
    go_upto_region 10 with (at_builtin; refine wpList_app _ rfl (.tmp 35) (.tmp 39) 40 40 rfl _ _ rfl rfl (fun ty => app_src _ 40 40 ty w.heap.size 48 i0 _ 12 144 Tryd.underlying40 HI.out.1 HI.out.2.1 HI.out.2.2.1 HI.out.2.2.2 rfl (by decide) _ _ (c1 ++ c2).length c3.length _ _ HO6.out.1 (src_nods Tryd.underlying40 HS6.out) (by rw [List.length_append]; unfold maxLen; omega) (by rw [List.length_append]; omega) HB6.out.size) ?_; intro v7 w7 ho2 hg2 hv2; have HZ2 := Lib.hid (And.intro ho2 (And.intro hg2 hv2.2)); clear ho2 hg2 hv2)
    have HO7 := Lib.hid (HO6.out.app HIN6.out HZ2.out.1 HZ2.out.2.1 HZ2.out.2.2)
    have HB7 := Lib.hid (below_app HB6.out HZ2.out.2.1 HO6.out.1 HB6.out.size)
    have HM7 := Lib.hid (HMW.out.below HB7.out)
    have HCK2 := Lib.hid (TreeCheck_any v7 _ w7 HM7.out (HO7.out.slice (by rw [List.length_append, List.length_append]; unfold maxLen; omega)))
    rw [treeFault_eq HBR.out] at HCK2
    by_cases hT : treeFault (putL l n) = 0
    · have HF := Lib.hid (HT2.out hT)
      rw [hT] at HCK2
      clear hT
      go_wp2_with fail
      refine HCK2.out.mono ?_
      rintro e w8 ⟨rfl, hb⟩
      have HB8 := Lib.hid (HB7.out.trans (hb.mono HB7.out.size))
      have HO8 := Lib.hid (HO7.out.below hb)
      clear hb
      go_wp2
      go_ret2
      rw [HF.out]
      exact ⟨_, _, rfl, HO8.out, HBR.out, HB8.out⟩
    · have HF := Lib.hid (HT1.out hT)
      generalize treeFault (putL l n) = tf at *
      have hq : (tf == 0) = false := by rw [beq_eq_false_iff_ne]; exact hT
      clear hT
      go_wp2_with fail
      refine HCK2.out.mono ?_
      rintro e w8 ⟨rfl, hb⟩
      have HB8 := Lib.hid (HB7.out.trans (hb.mono HB7.out.size))
      clear hb
      go_wp2
      go_ret2
      rw [HF.out]
      exact ⟨_, [], rfl, OwnNods.nil _ _ _, rfl, HB8.out⟩
set_option maxRecDepth 100000 in
set_option maxHeartbeats 1000000 in
theorem PutL_any (v : Value) (l : List Nod) (n : Nod) (w : World) (hM : MaxOk w) (h : SliceC maxLen 12 (NodC maxLen) w [v] l) (hn : n.Ok maxLen w) (hns : n.path.size ≤ 1048576) (hnd : n.data.length ≤ 140737488355328) :
    Calls Tryd.prog 33 #[v, n.val] w (RetTE 48 w (treePut l n)) := by
  by_cases hE : treeFault l = 0
  · exact PutL_ok v l n w hM h hn hns hnd hE
  · have HBX := Lib.hid ((Below.refl w.heap.size w).alloc (Nat.le_refl _) (boxOf n))
    have HC := Lib.hid (TreeCheck_any v l _ (hM.below HBX.out) (nods_below h HBX.out))
    have HF := Lib.hid (treePut_bad (n := n) hE)
    generalize treeFault l = tf at *
    have hq : (tf == 0) = false := by rw [beq_eq_false_iff_ne]; exact hE
    clear hE h hn hM hns hnd
    go_enter Tryd.func33, Tryd.ntmps33
    go_wp2_with fail
    refine HC.out.mono ?_
    rintro e w1 ⟨rfl, hb⟩
    have HB1 := Lib.hid (HBX.out.trans (hb.mono (by simp)))
    clear hb
    go_wp2
    go_ret2
    rw [HF.out]
    exact ⟨_, [], rfl, OwnNods.nil _ _ _, rfl, HB1.out⟩
end Go.Proofs.YtecmcgedeaemgaaDoor
