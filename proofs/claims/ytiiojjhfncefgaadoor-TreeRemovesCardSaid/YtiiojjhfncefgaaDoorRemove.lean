/-
  tree.Remove and its reference.
-/
import Derived.Test.YtiiojjhfncefgaaDoorRemL
namespace Go.Creel
set_option linter.unusedVariables false
set_option linter.unusedSimpArgs false
open Go.RowKit
noncomputable def treeRemove (l : List Nod) (s : ByteArray) : List Nod × Int := if ¬ treeFault l = 0 then ([], treeFault l) else if treeFind l s < l.length then (l.filter (fun x => !remB x s), 0) else ([], 5)
theorem treeRemove_bad {l : List Nod} {s : ByteArray} (h : ¬ treeFault l = 0) : treeRemove l s = ([], treeFault l) := by unfold treeRemove; rw [if_pos h]
theorem treeRemove_none {l : List Nod} {s : ByteArray} (h : treeFault l = 0) (h1 : ¬ treeFind l s < l.length) : treeRemove l s = ([], 5) := by unfold treeRemove; rw [if_neg (by simpa using h), if_neg h1]
theorem treeRemove_ok {l : List Nod} {s : ByteArray} (h : treeFault l = 0) (h1 : treeFind l s < l.length) : treeRemove l s = (l.filter (fun x => !remB x s), 0) := by unfold treeRemove; rw [if_neg (by simpa using h), if_pos h1]
theorem treeFind_lt : ∀ {l : List Nod} {s : ByteArray}, treeFind l s < l.length → (nk l (treeFind l s)).path = s
  | [], _, h => absurd h (by simp)
  | x :: t, s, h => by
    unfold treeFind at h ⊢
    by_cases e : x.path = s
    · rw [if_pos e]; exact e
    · rw [if_neg e] at h ⊢
      have h' : treeFind t s < t.length := by simp at h; omega
      exact treeFind_lt h'
theorem nodFault_size {x : Nod} (h : nodFault x = 0) : x.path.size ≤ 400 := by
  unfold nodFault nodFaultN at h
  have hp : pathFault x.path = 0 := Classical.byContradiction fun e => by rw [if_pos e] at h; exact e h
  refine Classical.byContradiction fun e => ?_
  have := pathFault_size (s := x.path) (.inr (by omega))
  rw [hp] at this
  cases this
theorem nodFault_dat {x : Nod} (h : nodFault x = 0) : x.data.length ≤ 2000 := by
  unfold nodFault nodFaultN at h
  split at h
  · rename_i h1; exact absurd h h1
  · split at h
    · rename_i h1; exact absurd h h1
    · split at h
      · split at h
        · cases h
        · split at h
          · cases h
          · omega
      · split at h
        · split at h
          · cases h
          · rename_i h1; omega
        · cases h
theorem treeFault_dat {l : List Nod} (h : treeFault l = 0) : ∀ i, i < l.length → (nk l i).data.length ≤ 140737488355328 := fun i hi => Nat.le_trans (nodFault_dat ((treeFault_all h).2 i hi)) (by omega)
theorem filter_dat {l : List Nod} (p : Nod → Bool) (h : ∀ i, i < l.length → (nk l i).data.length ≤ 140737488355328) : ∀ i, i < (l.filter p).length → (nk (l.filter p) i).data.length ≤ 140737488355328 := by
  intro i hi
  rw [nk_eq hi]
  have hm := (List.mem_filter.1 (List.getElem_mem hi)).1
  obtain ⟨j, hj, e⟩ := List.mem_iff_getElem.1 hm
  rw [← e, ← nk_eq hj]
  exact h j hj
theorem filter_bare {c l : List Nod} (s : ByteArray) (h : c.map Nod.bare = l.map Nod.bare) : (c.filter fun x => !remB x s).map Nod.bare = (l.filter fun x => !remB x s).map Nod.bare := by
  have e := congrArg (List.filter fun x => !remB x s) h
  rw [List.filter_map, List.filter_map] at e
  exact e
theorem remB_eq {x : Nod} {s : ByteArray} (h : x.path = s) : remB x s = true := by unfold remB; rw [seq_t h]; rfl
theorem remB_ne {x : Nod} {s : ByteArray} (h : ¬ x.path = s) : remB x s = pathIn x.path s := by unfold remB; rw [seq_f h]; rfl
theorem filterTo_keep {p : Nod → Bool} {l : List Nod} {k : Nat} (hk : k < l.length) (h : p (nk l k) = true) : (l.take (k + 1)).filter p = (l.take k).filter p ++ [nk l k] := by
  rw [take_nk hk, List.filter_append, List.filter_cons_of_pos h]
  rfl
theorem filterTo_skip {p : Nod → Bool} {l : List Nod} {k : Nat} (hk : k < l.length) (h : p (nk l k) = false) : (l.take (k + 1)).filter p = (l.take k).filter p := by
  rw [take_nk hk, List.filter_append, List.filter_cons_of_neg (by simp [h])]
  simp
end Go.Creel
namespace Go.Proofs.YtiiojjhfncefgaaDoor
set_option linter.unusedVariables false
set_option linter.unusedSimpArgs false
open Go.Creel Go.RowKit
theorem FindN_any (v : Value) (l : List Nod) (s : ByteArray) (w : World) (h : SliceC maxLen 12 (NodC maxLen) w [v] l) :
    Calls Tryd.prog 61 #[v, .string s] w fun e w' => e = .returned (.tuple #[.int .i64 (findIE (treeFind l s) l.length).1, .int .i64 (findIE (treeFind l s) l.length).2]) ∧ Below w.heap.size w w' := by
  rcases nods_cases h with ⟨a, cap, rfl, rfl, _⟩ | ⟨b, off, cap, rfl, h1, h2, h3, h6, h4, h5⟩
  · exact Find_nil a cap s w
  · exact Find_at b off cap l s w h2 h3 h4
theorem TreeFindN_any (v : Value) (l : List Nod) (s : ByteArray) (w : World) (h : SliceC maxLen 12 (NodC maxLen) w [v] l) :
    Calls Tryd.prog 65 #[v, .string s] w fun e w' => e = .returned (.int .i64 (treeFind l s)) ∧ w = w' := by
  rcases nods_cases h with ⟨a, cap, rfl, rfl, _⟩ | ⟨b, off, cap, rfl, h1, h2, h3, h6, h4, h5⟩
  · exact TreeFind_nil a cap s w
  · exact TreeFind_at b off cap l s w h2 h3 h4
set_option maxRecDepth 100000 in
set_option maxHeartbeats 4000000 in
theorem RemoveL_any (v : Value) (l : List Nod) (s : ByteArray) (w : World) (hM : MaxOk w) (h : SliceC maxLen 12 (NodC maxLen) w [v] l) :
    Calls Tryd.prog 27 #[v, .string s] w (RetTE 36 w (treeRemove l s)) := by
  have HBX := Lib.hid ((Below.refl w.heap.size w).alloc (Nat.le_refl _) (.cells #[.string s] 9))
  have HM := Lib.hid (hM.below HBX.out)
  have H := Lib.hid (nods_below h HBX.out)
  have hpc : (w.alloc (.cells #[.string s] 9)).cell? ⟨w.heap.size, 0, none⟩ = some (.string s) := by simp [World.cell?_alloc_new]
  have HPC := Lib.hid hpc
  have HPL := Lib.hid (show w.heap.size < (w.alloc (.cells #[.string s] 9)).heap.size by simp)
  clear h hM hpc
  by_cases hE : treeFault l = 0
  · by_cases hF : treeFind l s < l.length
    · have HF := Lib.hid (treeRemove_ok hE hF)
      have hfew := (treeFault_all hE).1
      have HD := Lib.hid (treeFault_dat hE)
      have hss : s.size ≤ 4000000000 := by
        have h1 := nodFault_size ((treeFault_all hE).2 _ hF)
        rw [treeFind_lt hF] at h1
        omega
      have hpos : 0 < l.length := by omega
      have HFI := Lib.hid (show findIE (treeFind l s) l.length = (((treeFind l s : Nat) : Int), 0) by unfold findIE; rw [if_pos hF])
      have HE := Lib.hid hE
      clear hE hF
      go_enter Tryd.func27, Tryd.ntmps27
      go_wp2_with fail
      refine (TreeCheck_any v l _ HM.out H.out).mono ?_
      rintro e w1 ⟨rfl, hb⟩
      rw [HE.out]
      have HB1 := Lib.hid hb
      have H1 := Lib.hid (nods_below H.out hb)
      have hp1 : w1.cell? ⟨w.heap.size, 0, none⟩ = some (.string s) := (hb.cell (p := ⟨w.heap.size, 0, none⟩) HPL.out).trans HPC.out
      clear hb
      go_wp2_with fail
      refine (FindN_any v l s _ H1.out).mono ?_
      rintro e w2 ⟨rfl, hb⟩
      rw [HFI.out]
      have HB2 := Lib.hid (HB1.out.trans (hb.mono HB1.out.size))
      have H2 := Lib.hid (nods_below H1.out hb)
      generalize treeFind l s = q at *
      clear hb hp1
      go_wp2_with fail
      refine (CopyL_any v l _ H2.out (by omega) HD.out).mono ?_
      rintro e w3 ⟨v3, c, rfl, ho, hcl, hb⟩
      have HB3 := Lib.hid (HB2.out.trans (hb.mono HB2.out.size))
      have HB3s := Lib.hid hb.size
      have hlen := bare_len hcl
      have HCL := Lib.hid hcl
      rcases ho.form with ⟨_, h0⟩ | ⟨g, cap, rfl, h1, h2, h3, h4⟩
      · rw [h0] at hlen; simp at hlen; omega
      · rw [hlen] at ho h3 ⊢
        have HDR := Lib.hid (DeleteRem_at g cap l.length w2.heap.size w.heap.size c s w3 hlen hpos (by omega) ho h3 h4 hb.size ((HB3.out.cell (p := ⟨w.heap.size, 0, none⟩) HPL.out).trans HPC.out) (Nat.lt_of_lt_of_le HPL.out HB2.out.size) hss)
        clear hb ho hcl hlen h1 h2 h3 h4
        go_wp2_with fail
        refine HDR.out.mono ?_
        rintro e w4 ⟨v4, rfl, ho, hb⟩
        have HO4 := Lib.hid ho
        have HB4 := Lib.hid hb
        clear ho hb
        go_wp2
        go_ret2
        rw [HF.out]
        exact ⟨_, _, rfl, HO4.out.mono (Nat.le_trans HBX.out.size HB2.out.size), filter_bare s HCL.out, HBX.out.trans ((HB3.out.mono HBX.out.size).trans (HB4.out.mono (Nat.le_trans HBX.out.size HB2.out.size)))⟩
    · have HF := Lib.hid (treeRemove_none hE hF)
      have HFI := Lib.hid (show findIE (treeFind l s) l.length = (0, 5) by unfold findIE; rw [if_neg hF])
      have HE := Lib.hid hE
      clear hE hF
      go_enter Tryd.func27, Tryd.ntmps27
      go_wp2_with fail
      refine (TreeCheck_any v l _ HM.out H.out).mono ?_
      rintro e w1 ⟨rfl, hb⟩
      rw [HE.out]
      have HB1 := Lib.hid hb
      have H1 := Lib.hid (nods_below H.out hb)
      have hp1 : w1.cell? ⟨w.heap.size, 0, none⟩ = some (.string s) := (hb.cell (p := ⟨w.heap.size, 0, none⟩) HPL.out).trans HPC.out
      clear hb
      go_wp2_with fail
      refine (FindN_any v l s _ H1.out).mono ?_
      rintro e w2 ⟨rfl, hb⟩
      rw [HFI.out]
      have HB2 := Lib.hid (HB1.out.trans (hb.mono HB1.out.size))
      clear hb hp1
      go_wp2
      go_ret2
      rw [HF.out]
      exact ⟨_, [], rfl, OwnNods.nil _ _ _, rfl, HBX.out.trans (HB2.out.mono HBX.out.size)⟩
  · have HF := Lib.hid (treeRemove_bad (s := s) hE)
    have HE := Lib.hid hE
    clear hE
    go_enter Tryd.func27, Tryd.ntmps27
    go_wp2_with fail
    refine (TreeCheck_any v l _ HM.out H.out).mono ?_
    rintro e w1 ⟨rfl, hb⟩
    have HB1 := Lib.hid hb
    have hne := HE.out
    clear hb
    generalize treeFault l = q at *
    go_wp2
    go_ret2
    rw [HF.out]
    exact ⟨_, [], rfl, OwnNods.nil _ _ _, rfl, HBX.out.trans (HB1.out.mono HBX.out.size)⟩
set_option maxRecDepth 100000 in
set_option maxHeartbeats 4000000 in
theorem FilterR_at (b off cap : Nat) (l : List Nod) (s : ByteArray) (w : World) (hpos : 0 < l.length) (hle : l.length ≤ cap) (hm : cap ≤ maxLen) (hc : NodsAt w b off l) (hok : ∀ i, i < l.length → (nk l i).Ok maxLen w) (h : SliceC maxLen 12 (NodC maxLen) w [.slice (some ⟨b, off, none⟩) l.length cap] l) :
    Calls Tryd.prog 28 #[.slice (some ⟨b, off, none⟩) l.length cap, .string s] w (RetTE 36 w (treeRemove l s)) := by
  obtain ⟨i0, hi, hz0, hz1, hz2⟩ := info_parts info_node
  have HI := Lib.hid (And.intro hi (And.intro hz0 (And.intro hz1 hz2)))
  have H := Lib.hid h
  have HC := Lib.hid hc
  have HK := Lib.hid hok
  unfold maxLen at hm
  clear h hc hok hi hz0 hz1 hz2
  by_cases hE : treeFault l = 0
  · by_cases hF : treeFind l s < l.length
    · have HF := Lib.hid (treeRemove_ok hE hF)
      have hfew := (treeFault_all hE).1
      have HD := Lib.hid (treeFault_dat hE)
      have hss : s.size ≤ 4000000000 := by
        have h1 := nodFault_size ((treeFault_all hE).2 _ hF)
        rw [treeFind_lt hF] at h1
        omega
      have HPS := Lib.hid (fun k (hk : k < l.length) => nodFault_size ((treeFault_all hE).2 k hk))
      have HE := Lib.hid hE
      have hq : ((((treeFind l s : Nat) : Int)) == ((l.length : Nat) : Int)) = false := by rw [beq_eq_false_iff_ne]; omega
      clear hE hF
      go_enter Tryd.func28, Tryd.ntmps28
      go_wp2_with fail
      refine (TreeFault_any _ l _ H.out).mono ?_
      rintro e w1 ⟨rfl, hb⟩
      rw [HE.out]
      have HB1 := Lib.hid hb
      have H1 := Lib.hid (nods_below H.out hb)
      clear hb
      go_wp2_with fail
      refine (TreeFindN_any _ l s _ H1.out).mono ?_
      rintro e w2 ⟨rfl, rfl⟩
      generalize treeFind l s = q at *
      have HCB := Lib.hid (HC.out.below HB1.out)
      go_wp2
      go_loopw [7, 9, 23] (fun v _ i wr => ∃ k : Nat, k ≤ l.length ∧ i = .int .i64 k ∧ Hid (OwnNods 36 wr w.heap.size v ((l.take k).filter fun x => !remB x s)) ∧ Hid (Below w.heap.size w wr)) (fun _ _ i _ => l.length - (intOf i).toNat)
      case atStart => exact ⟨0, by omega, rfl, Lib.hid (OwnNods.nil _ _ _), HB1⟩
      case round =>
        obtain ⟨k, hk, rfl, HOW, HB⟩ := hrel
        by_cases hlt : k < l.length
        · obtain ⟨h0, h1, h2, h3, h4, h5, h6, h7, h8, h9, h10, h11⟩ := (HC.out.below HB.out) k hlt
          have HKX := Lib.hid (HK.out k hlt)
          have HPX := Lib.hid (HPS.out k hlt)
          have HKE := Lib.hid (fun h => filterTo_keep (p := fun x => !remB x s) hlt h)
          have HSK := Lib.hid (fun h => filterTo_skip (p := fun x => !remB x s) hlt h)
          have hcl : ((l.take k).filter fun x => !remB x s).length ≤ k := Nat.le_trans (List.length_filter_le _ _) (by rw [List.length_take]; omega)
          generalize nk l k = x at *
          generalize hcc : (l.take k).filter (fun x => !remB x s) = c at *
          clear hcc
          have HBX := Lib.hid ((Below.refl wr.heap.size wr).alloc (Nat.le_refl _) (boxOf x))
          have HBZ := Lib.hid (nodAt_box wr x 36)
          by_cases he : x.path = s
          · have hsq := seq_t he
            have hsn : (x.path.toList != s.toList) = false := by rw [bne, hsq]; rfl
            have HSK2 := Lib.hid (HSK.out (by simp [remB_eq he]))
            clear he
            go_wp2
            go_roundw
            case rel => exact ⟨k + 1, by omega, by go_num, Lib.hid (by rw [HSK2.out]; exact HOW.out.below HBX.out), Lib.hid (HB.out.alloc HB.out.size _)⟩
            case measure => simp [intOf]; omega
          · have hsq := seq_f he
            have hsn : (x.path.toList != s.toList) = true := by rw [bne, hsq]; rfl
            have HRB := Lib.hid (remB_ne he)
            have HCALL := Lib.hid (fun w : World => PathIn_any x.path s w (Nat.le_trans HPX.out (by omega)) hss)
            clear he
            by_cases hp : pathIn x.path s = true
            · have HSK2 := Lib.hid (HSK.out (by simp [HRB.out, hp]))
              rw [hp] at HCALL
              clear hp
              go_wp2_with (go_at_call 66; refine (HCALL.out _).mono ?_; rintro e w3 ⟨rfl, hb3⟩; have HB3 := Lib.hid (HBX.out.trans (hb3.mono HBX.out.size)); clear hb3)
              go_roundw
              case rel => exact ⟨k + 1, by omega, by go_num, Lib.hid (by rw [HSK2.out]; exact HOW.out.below HB3.out), Lib.hid (HB.out.trans (HB3.out.mono HB.out.size))⟩
              case measure => simp [intOf]; omega
            · have hpf : pathIn x.path s = false := by simpa using hp
              have HKE2 := Lib.hid (HKE.out (by simp [HRB.out, hpf]))
              rw [hpf] at HCALL
              clear hp hpf
              go_wp2_with (first
                | (go_at_call 66; refine (HCALL.out _).mono ?_; rintro e w3 ⟨rfl, hb3⟩; have HB3 := Lib.hid (HBX.out.trans (hb3.mono HBX.out.size)); obtain ⟨c0, c1, c2, c3, c4, c5, c6, c7, c8, c9, c10, c11⟩ := (HBZ.out.below hb3).zero; clear hb3)
                | (at_builtin; have HA := Lib.hid (HB3.out.trans ((Below.refl w3.heap.size w3).alloc (Nat.le_refl _) (boxOf x) |>.mono HB3.out.size)); have HO3 := Lib.hid (HOW.out.below HA.out); have HBA := Lib.hid (HB.out.trans (HA.out.mono HB.out.size)); have HN3 := Lib.hid (nodIn_arg HKX.out HBA.out HOW.out); refine wpList_app _ rfl (.tmp 38) (.tmp 40) 22 22 rfl _ _ rfl rfl (fun ty => app_src _ 22 22 ty w.heap.size 36 i0 _ 12 144 Tryd.underlying22 HI.out.1 HI.out.2.1 HI.out.2.2.1 HI.out.2.2.2 rfl (by decide) _ _ c.length 1 _ _ HO3.out.1 (src_nod w3 _ _ _ Tryd.underlying22 x) (by unfold maxLen; omega) (by omega) HBA.out.size) ?_; intro v2 w4 ho2 hg2 hv2; have HZ := Lib.hid (And.intro ho2 (And.intro hg2 hv2)); clear ho2 hg2 hv2))
              have HO4 := Lib.hid (HO3.out.app (m := [x]) (fun y hy => by rw [List.mem_singleton.1 hy]; exact HN3.out) HZ.out.1 HZ.out.2.1 HZ.out.2.2.2)
              have HB4 := Lib.hid (below_app HBA.out HZ.out.2.1 HO3.out.1 HBA.out.size)
              go_wp2
              go_roundw
              case rel => exact ⟨k + 1, by omega, by go_num, Lib.hid (by rw [HKE2.out]; exact HO4.out), HB4⟩
              case measure => simp [intOf]; omega
        · obtain rfl : k = l.length := by omega
          rw [List.take_length] at HOW
          have hcl : (l.filter fun x => !remB x s).length ≤ l.length := List.length_filter_le _ _
          go_wp2_with fail
          refine (CopyR_any _ (l.filter fun x => !remB x s) _ (HOW.out.slice (by unfold maxLen; omega)) (by omega) (filter_dat _ HD.out)).mono ?_
          rintro e w5 ⟨v5, c, rfl, ho, hcb, hb⟩
          have HO5 := Lib.hid (ho.mono HB.out.size)
          have HB5 := Lib.hid (HB.out.trans (hb.mono HB.out.size))
          have HC5 := Lib.hid hcb
          clear ho hb hcb
          go_wp2
          go_ret2
          rw [HF.out]
          exact ⟨_, c, rfl, HO5.out, HC5.out, HB5.out⟩
    · have HF := Lib.hid (treeRemove_none hE hF)
      have hle' := treeFind_le l s
      have hq : ((((treeFind l s : Nat) : Int)) == ((l.length : Nat) : Int)) = true := by rw [beq_iff_eq]; omega
      have HE := Lib.hid hE
      clear hE hF hle'
      go_enter Tryd.func28, Tryd.ntmps28
      go_wp2_with fail
      refine (TreeFault_any _ l _ H.out).mono ?_
      rintro e w1 ⟨rfl, hb⟩
      rw [HE.out]
      have HB1 := Lib.hid hb
      have H1 := Lib.hid (nods_below H.out hb)
      clear hb
      go_wp2_with fail
      refine (TreeFindN_any _ l s _ H1.out).mono ?_
      rintro e w2 ⟨rfl, rfl⟩
      generalize treeFind l s = q at *
      go_wp2
      go_ret2
      rw [HF.out]
      exact ⟨_, [], rfl, OwnNods.nil _ _ _, rfl, HB1.out⟩
  · have HF := Lib.hid (treeRemove_bad (s := s) hE)
    have HE := Lib.hid hE
    clear hE
    go_enter Tryd.func28, Tryd.ntmps28
    go_wp2_with fail
    refine (TreeFault_any _ l _ H.out).mono ?_
    rintro e w1 ⟨rfl, hb⟩
    have HB1 := Lib.hid hb
    have hne := HE.out
    clear hb
    generalize treeFault l = q at *
    go_wp2
    go_ret2
    rw [HF.out]
    exact ⟨_, [], rfl, OwnNods.nil _ _ _, rfl, HB1.out⟩
set_option maxRecDepth 100000 in
theorem FilterR_nil (a : Option Addr) (cap : Nat) (s : ByteArray) (w : World) (h : SliceC maxLen 12 (NodC maxLen) w [.slice a 0 cap] []) :
    Calls Tryd.prog 28 #[.slice a 0 cap, .string s] w (RetTE 36 w (treeRemove [] s)) := by
  have HF := Lib.hid (treeRemove_none (l := []) (s := s) treeFault_zero (by simp [treeFind]))
  have HE := Lib.hid treeFault_zero
  have H := Lib.hid h
  clear h
  go_enter Tryd.func28, Tryd.ntmps28
  go_wp2_with fail
  refine (TreeFault_any _ [] _ H.out).mono ?_
  rintro e w1 ⟨rfl, hb⟩
  rw [HE.out]
  have HB1 := Lib.hid hb
  clear hb
  go_wp2_with fail
  refine (TreeFind_nil a cap s _).mono ?_
  rintro e w2 ⟨rfl, rfl⟩
  go_wp2
  go_ret2
  rw [HF.out]
  exact ⟨_, [], rfl, OwnNods.nil _ _ _, rfl, HB1.out⟩
theorem RemoveR_any (v : Value) (l : List Nod) (s : ByteArray) (w : World) (h : SliceC maxLen 12 (NodC maxLen) w [v] l) :
    Calls Tryd.prog 28 #[v, .string s] w (RetTE 36 w (treeRemove l s)) := by
  rcases nods_cases h with ⟨a, cap, rfl, rfl, _⟩ | ⟨b, off, cap, rfl, h1, h2, h3, h6, h4, h5⟩
  · exact FilterR_nil a cap s w h
  · exact FilterR_at b off cap l s w h1 h2 h3 h4 h5 h
end Go.Proofs.YtiiojjhfncefgaaDoor
