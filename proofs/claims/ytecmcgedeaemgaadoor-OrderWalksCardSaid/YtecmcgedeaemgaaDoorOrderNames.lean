/-
  order.Names and its reference.
-/
import Derived.Test.YtecmcgedeaemgaaDoorTreeAll
import Derived.Test.YtecmcgedeaemgaaDoorSameTexts
namespace Go.Creel
set_option linter.unusedVariables false
open Go.RowKit
noncomputable def namesL (l : List Nod) (dir : ByteArray) (k : Nat) : List ByteArray := ((l.take k).filter fun x => decide (pathUp x.path = dir)).map fun x => pathBase x.path
theorem namesL_zero (l : List Nod) (dir : ByteArray) : namesL l dir 0 = [] := rfl
theorem namesL_len (l : List Nod) (dir : ByteArray) (k : Nat) : (namesL l dir k).length ≤ k := by
  unfold namesL
  rw [List.length_map]
  exact Nat.le_trans (List.length_filter_le _ _) (List.length_take_le _ _)
theorem namesL_yes {l : List Nod} {dir : ByteArray} {k : Nat} (h : k < l.length) (hd : pathUp (nk l k).path = dir) : namesL l dir (k + 1) = namesL l dir k ++ [pathBase (nk l k).path] := by
  unfold namesL; rw [take_nk h, List.filter_append, List.map_append]; simp [hd]
theorem namesL_no {l : List Nod} {dir : ByteArray} {k : Nat} (h : k < l.length) (hd : ¬ pathUp (nk l k).path = dir) : namesL l dir (k + 1) = namesL l dir k := by
  unfold namesL; rw [take_nk h, List.filter_append, List.map_append]; simp [hd]
noncomputable def orderNames (l : List Nod) (dir : ByteArray) : List ByteArray × Int :=
  if ¬ treeFault l = 0 then ([], treeFault l)
  else if dir.size ≠ 0 ∧ treeFind l dir = l.length then ([], 5)
  else if dir.size ≠ 0 ∧ ¬ (nk l (treeFind l dir)).kind = 2 then ([], 10)
  else (namesL l dir l.length, 0)
theorem orderNames_bad {l : List Nod} {dir : ByteArray} (h : ¬ treeFault l = 0) : orderNames l dir = ([], treeFault l) := by unfold orderNames; rw [if_pos h]
theorem orderNames_root {l : List Nod} {dir : ByteArray} (h : treeFault l = 0) (h0 : dir.size = 0) : orderNames l dir = (namesL l dir l.length, 0) := by unfold orderNames; rw [if_neg (by simpa using h), if_neg (fun e => e.1 h0), if_neg (fun e => e.1 h0)]
theorem orderNames_none {l : List Nod} {dir : ByteArray} (h : treeFault l = 0) (h0 : ¬ dir.size = 0) (h1 : treeFind l dir = l.length) : orderNames l dir = ([], 5) := by unfold orderNames; rw [if_neg (by simpa using h), if_pos ⟨h0, h1⟩]
theorem orderNames_up {l : List Nod} {dir : ByteArray} (h : treeFault l = 0) (h0 : ¬ dir.size = 0) (h1 : treeFind l dir < l.length) (h2 : ¬ (nk l (treeFind l dir)).kind = 2) : orderNames l dir = ([], 10) := by unfold orderNames; rw [if_neg (by simpa using h), if_neg (fun e => by omega), if_pos ⟨h0, h2⟩]
theorem orderNames_dir {l : List Nod} {dir : ByteArray} (h : treeFault l = 0) (h1 : treeFind l dir < l.length) (h2 : (nk l (treeFind l dir)).kind = 2) : orderNames l dir = (namesL l dir l.length, 0) := by unfold orderNames; rw [if_neg (by simpa using h), if_neg (fun e => by omega), if_neg (fun e => e.2 h2)]
/-- a new slice of texts and a number -/
def RetSE (t : TypeId) (w : World) (p : List ByteArray × Int) (e : Ending) (w' : World) : Prop := ∃ v, e = .returned (.tuple #[v, .int .i64 p.2]) ∧ OwnSs t w' w.heap.size v p.1 ∧ Below w.heap.size w w'
theorem OwnSs.mono {t : TypeId} {w : World} {B B' : Nat} {v : Value} {l : List ByteArray} (h : OwnSs t w B v l) (hb : B' ≤ B) : OwnSs t w B' v l := by
  rcases h.2 with ⟨rfl, h0⟩ | ⟨g, cap, cur, rfl, hbg, hg, hnc, hcm, hcs, htake⟩
  · exact ⟨h.1, .inl ⟨rfl, h0⟩⟩
  · exact ⟨h.1, .inr ⟨g, cap, cur, rfl, Nat.le_trans hb hbg, hg, hnc, hcm, hcs, htake⟩⟩
end Go.Creel
namespace Go.Proofs.YtecmcgedeaemgaaDoor
set_option linter.unusedVariables false
set_option linter.unusedSimpArgs false
open Go.Creel Go.RowKit
theorem Up_b (s : ByteArray) (w : World) (hs : s.size ≤ 4000000000) :
    Calls Tryd.prog 94 #[.string s] w fun e w' => e = .returned (.string (pathUp s)) ∧ Below w.heap.size w w' :=
  (Up_any s w hs).mono fun e w' ⟨h1, h2⟩ => ⟨h1, by rw [← h2]; exact Below.refl _ _⟩
theorem Base_b (s : ByteArray) (w : World) (hs : s.size ≤ 4000000000) :
    Calls Tryd.prog 147 #[.string s] w fun e w' => e = .returned (.string (pathBase s)) ∧ Below w.heap.size w w' :=
  (Base_any s w hs).mono fun e w' ⟨h1, h2⟩ => ⟨h1, by rw [← h2]; exact Below.refl _ _⟩
set_option maxRecDepth 100000 in
set_option maxHeartbeats 4000000 in
theorem OrderNamesL_at (b off cap : Nat) (l : List Nod) (dir : ByteArray) (w : World) (hM : MaxOk w) (hpos : 0 < l.length) (hle : l.length ≤ cap) (hm : cap ≤ maxLen) (hc : NodsAt w b off l) (h : SliceC maxLen 12 (NodC maxLen) w [.slice (some ⟨b, off, none⟩) l.length cap] l) (hdir : dir.size ≤ maxLen) :
    Calls Tryd.prog 121 #[.slice (some ⟨b, off, none⟩) l.length cap, .string dir] w (RetSE 9 w (orderNames l dir)) := by
  obtain ⟨i0, hi, hz0, hz1, hz2⟩ := info_parts info_string
  have HI := Lib.hid (And.intro hi (And.intro hz0 (And.intro hz1 hz2)))
  have H := Lib.hid h
  have HM := Lib.hid hM
  have HCW := Lib.hid hc
  have hcp := hm
  have HCAP := Lib.hid hcp
  unfold maxLen at hm
  clear h hM hc hi hz0 hz1 hz2 hcp
  by_cases hE : treeFault l = 0
  · have HE := Lib.hid hE
    have hfew := (treeFault_all hE).1
    have HPZ := Lib.hid (fun (k : Nat) (hk : k < l.length) => Nat.le_trans (nodFault_path ((treeFault_all hE).2 k hk)) (show 400 ≤ 4000000000 by decide))
    have HFL := Lib.hid (treeFind_le l dir)
    clear hE
    by_cases h0 : dir.size = 0
    · have HF := Lib.hid (orderNames_root HE.out h0)
      have he := empty_t h0
      clear h0
      go_enter Tryd.func121, Tryd.ntmps121
      go_wp2_with fail
      refine (TreeCheck_any _ l _ HM.out H.out).mono ?_
      rintro e wa ⟨rfl, hb⟩
      have HBA0 := Lib.hid hb
      have HC := Lib.hid (HCW.out.below hb)
      rw [HE.out]
      clear hb
      go_wp2
      go_loopw [9, 11, 36] (fun v _ i wr => ∃ k : Nat, k ≤ l.length ∧ i = .int .i64 k ∧ Hid (OwnSs 9 wr wa.heap.size v (namesL l dir k)) ∧ Hid (Below wa.heap.size wa wr)) (fun v _ i _ => l.length - (intOf i).toNat)
      case atStart => exact ⟨0, by omega, rfl, Lib.hid (by rw [namesL_zero]; exact World.ownsRow_nil _ _ _ 1), Lib.hid (Below.refl _ _)⟩
      case round =>
        obtain ⟨k, hk, rfl, HOW, HB⟩ := hrel
        have hnl := namesL_len l dir k
        by_cases hlt : k < l.length
        · obtain ⟨h0, h1, h2, h3, h4, h5, h6, h7, h8, h9, h10, h11⟩ := (HC.out.below HB.out) k hlt
          go_wp2_with fail
          have HBX := Lib.hid (nodAt_box wr (nk l k) 48)
          refine (Up_b (nk l k).path _ (HPZ.out k hlt)).mono ?_
          rintro e w2 ⟨rfl, hb⟩
          have HB2 := Lib.hid ((HB.out.alloc HB.out.size _).trans (hb.mono (by simp; exact Nat.le_succ_of_le HB.out.size)))
          have HBX2 := Lib.hid (HBX.out.below hb)
          have HO2 := Lib.hid (OwnSs.below (World.ownsRow.alloc HOW.out _) hb)
          clear hb h0 h1 h2 h3 h4 h5 h6 h7 h8 h9 h10 h11
          generalize wr.heap.size = bx at *
          obtain ⟨g0, g1, g2, g3, g4, g5, g6, g7, g8, g9, g10, g11⟩ := HBX2.out.zero
          by_cases hd : pathUp (nk l k).path = dir
          · have hq := seq_t hd
            have HS := Lib.hid (namesL_yes hlt hd)
            clear hd
            go_wp2_with fail
            refine (Base_b (nk l k).path _ (HPZ.out k hlt)).mono ?_
            rintro e w3 ⟨rfl, hb⟩
            have HB3 := Lib.hid (HB2.out.trans (hb.mono HB2.out.size))
            have HO3 := Lib.hid (OwnSs.below HO2.out hb)
            clear hb g0 g1 g2 g3 g4 g5 g6 g7 g8 g9 g10 g11
            have HSZ := Lib.hid (Nat.le_trans HB3.out.size ((Below.refl w3.heap.size w3).alloc (Nat.le_refl _) (.cells #[.string (pathBase (nk l k).path)] 9)).size)
            have HOA := Lib.hid (World.ownsRow.alloc HO3.out (.cells #[.string (pathBase (nk l k).path)] 9))
            have HBA := Lib.hid (HB3.out.alloc HB3.out.size (.cells #[.string (pathBase (nk l k).path)] 9))
            go_wp2_with (at_builtin; refine wpList_app _ rfl (.tmp 45) (.tmp 49) 56 56 rfl _ _ rfl rfl (n := (namesL l dir k).length) (fun ty => app_src _ _ _ _ wa.heap.size 9 i0 (.string ByteArray.empty) 1 16 Tryd.underlying56 HI.out.1 HI.out.2.1 HI.out.2.2.1 HI.out.2.2.2 rfl (by decide) _ _ _ _ _ _ HOA.out (src_one w3 _ _ _ Tryd.underlying56 _ rfl) (by unfold maxLen; omega) (by omega) HSZ.out) ?_; intro v1 w4 ho hg _)
            have HO4 := Lib.hid (OwnSs.app (m := [pathBase (nk l k).path]) ho)
            have HB4 := Lib.hid (below_app HBA.out hg HOA.out HSZ.out)
            clear ho hg
            go_wp2
            go_roundw
            case rel => exact ⟨k + 1, by omega, by go_num, Lib.hid (by rw [HS.out]; exact HO4.out), HB4⟩
            case measure => simp [intOf]; omega
          · have hq := seq_f hd
            have HS := Lib.hid (namesL_no hlt hd)
            clear hd
            go_wp2
            go_roundw
            case rel => exact ⟨k + 1, by omega, by go_num, Lib.hid (by rw [HS.out]; exact HO2.out), HB2⟩
            case measure => simp [intOf]; omega
        · obtain rfl : k = l.length := by omega
          go_wp2
          go_ret2
          rw [HF.out]
          exact ⟨_, rfl, OwnSs.mono HOW.out HBA0.out.size, HBA0.out.trans (HB.out.mono HBA0.out.size)⟩
    · have he := empty_f h0
      by_cases hfd : treeFind l dir < l.length
      · by_cases hkd : (nk l (treeFind l dir)).kind = 2
        · have HF := Lib.hid (orderNames_dir HE.out hfd hkd)
          clear h0
          go_enter Tryd.func121, Tryd.ntmps121
          go_wp2_with fail
          refine (TreeCheck_any _ l _ HM.out H.out).mono ?_
          rintro e wc ⟨rfl, hb⟩
          have HBC := Lib.hid hb
          have HCC := Lib.hid (HCW.out.below hb)
          rw [HE.out]
          clear hb
          go_wp2_with fail
          refine (Find_at b off cap l dir wc hle HCAP.out HCC.out).mono ?_
          rintro e wa ⟨rfl, hb⟩
          have HBA0 := Lib.hid (HBC.out.trans (hb.mono HBC.out.size))
          have HC := Lib.hid (HCC.out.below hb)
          rw [show findIE (treeFind l dir) l.length = (((treeFind l dir : Nat) : Int), 0) from if_pos hfd]
          clear hb
          obtain ⟨_, q1, _⟩ := HC.out (treeFind l dir) hfd
          have hkb : ((nk l (treeFind l dir)).kind != 2) = false := by rw [hkd]; rfl
          have hfi : ((treeFind l dir : Nat) : Int) < (l.length : Int) := by omega
          generalize treeFind l dir = fd at *
          clear hkd
          go_wp2
          go_loopw [9, 11, 36] (fun v _ i wr => ∃ k : Nat, k ≤ l.length ∧ i = .int .i64 k ∧ Hid (OwnSs 9 wr wa.heap.size v (namesL l dir k)) ∧ Hid (Below wa.heap.size wa wr)) (fun v _ i _ => l.length - (intOf i).toNat)
          case atStart => exact ⟨0, by omega, rfl, Lib.hid (by rw [namesL_zero]; exact World.ownsRow_nil _ _ _ 1), Lib.hid (Below.refl _ _)⟩
          case round =>
            obtain ⟨k, hk, rfl, HOW, HB⟩ := hrel
            have hnl := namesL_len l dir k
            by_cases hlt : k < l.length
            · obtain ⟨h0, h1, h2, h3, h4, h5, h6, h7, h8, h9, h10, h11⟩ := (HC.out.below HB.out) k hlt
              go_wp2_with fail
              have HBX := Lib.hid (nodAt_box wr (nk l k) 48)
              refine (Up_b (nk l k).path _ (HPZ.out k hlt)).mono ?_
              rintro e w2 ⟨rfl, hb⟩
              have HB2 := Lib.hid ((HB.out.alloc HB.out.size _).trans (hb.mono (by simp; exact Nat.le_succ_of_le HB.out.size)))
              have HBX2 := Lib.hid (HBX.out.below hb)
              have HO2 := Lib.hid (OwnSs.below (World.ownsRow.alloc HOW.out _) hb)
              clear hb h0 h1 h2 h3 h4 h5 h6 h7 h8 h9 h10 h11
              generalize wr.heap.size = bx at *
              obtain ⟨g0, g1, g2, g3, g4, g5, g6, g7, g8, g9, g10, g11⟩ := HBX2.out.zero
              by_cases hd : pathUp (nk l k).path = dir
              · have hq := seq_t hd
                have HS := Lib.hid (namesL_yes hlt hd)
                clear hd
                go_wp2_with fail
                refine (Base_b (nk l k).path _ (HPZ.out k hlt)).mono ?_
                rintro e w3 ⟨rfl, hb⟩
                have HB3 := Lib.hid (HB2.out.trans (hb.mono HB2.out.size))
                have HO3 := Lib.hid (OwnSs.below HO2.out hb)
                clear hb g0 g1 g2 g3 g4 g5 g6 g7 g8 g9 g10 g11
                have HSZ := Lib.hid (Nat.le_trans HB3.out.size ((Below.refl w3.heap.size w3).alloc (Nat.le_refl _) (.cells #[.string (pathBase (nk l k).path)] 9)).size)
                have HOA := Lib.hid (World.ownsRow.alloc HO3.out (.cells #[.string (pathBase (nk l k).path)] 9))
                have HBA := Lib.hid (HB3.out.alloc HB3.out.size (.cells #[.string (pathBase (nk l k).path)] 9))
                go_wp2_with (at_builtin; refine wpList_app _ rfl (.tmp 45) (.tmp 49) 56 56 rfl _ _ rfl rfl (n := (namesL l dir k).length) (fun ty => app_src _ _ _ _ wa.heap.size 9 i0 (.string ByteArray.empty) 1 16 Tryd.underlying56 HI.out.1 HI.out.2.1 HI.out.2.2.1 HI.out.2.2.2 rfl (by decide) _ _ _ _ _ _ HOA.out (src_one w3 _ _ _ Tryd.underlying56 _ rfl) (by unfold maxLen; omega) (by omega) HSZ.out) ?_; intro v1 w4 ho hg _)
                have HO4 := Lib.hid (OwnSs.app (m := [pathBase (nk l k).path]) ho)
                have HB4 := Lib.hid (below_app HBA.out hg HOA.out HSZ.out)
                clear ho hg
                go_wp2
                go_roundw
                case rel => exact ⟨k + 1, by omega, by go_num, Lib.hid (by rw [HS.out]; exact HO4.out), HB4⟩
                case measure => simp [intOf]; omega
              · have hq := seq_f hd
                have HS := Lib.hid (namesL_no hlt hd)
                clear hd
                go_wp2
                go_roundw
                case rel => exact ⟨k + 1, by omega, by go_num, Lib.hid (by rw [HS.out]; exact HO2.out), HB2⟩
                case measure => simp [intOf]; omega
            · obtain rfl : k = l.length := by omega
              go_wp2
              go_ret2
              rw [HF.out]
              exact ⟨_, rfl, OwnSs.mono HOW.out HBA0.out.size, HBA0.out.trans (HB.out.mono HBA0.out.size)⟩
        · have HF := Lib.hid (orderNames_up HE.out h0 hfd hkd)
          clear h0
          go_enter Tryd.func121, Tryd.ntmps121
          go_wp2_with fail
          refine (TreeCheck_any _ l _ HM.out H.out).mono ?_
          rintro e wc ⟨rfl, hb⟩
          have HBC := Lib.hid hb
          have HCC := Lib.hid (HCW.out.below hb)
          rw [HE.out]
          clear hb
          go_wp2_with fail
          refine (Find_at b off cap l dir wc hle HCAP.out HCC.out).mono ?_
          rintro e wa ⟨rfl, hb⟩
          have HBA0 := Lib.hid (HBC.out.trans (hb.mono HBC.out.size))
          have HC := Lib.hid (HCC.out.below hb)
          rw [show findIE (treeFind l dir) l.length = (((treeFind l dir : Nat) : Int), 0) from if_pos hfd]
          clear hb
          obtain ⟨_, q1, _⟩ := HC.out (treeFind l dir) hfd
          have hkb : ((nk l (treeFind l dir)).kind != 2) = true := by rw [bne_iff_ne]; exact hkd
          have hfi : ((treeFind l dir : Nat) : Int) < (l.length : Int) := by omega
          generalize treeFind l dir = fd at *
          clear hkd
          go_wp2
          go_ret2
          rw [HF.out]
          exact ⟨_, rfl, World.ownsRow_nil _ _ _ 1, HBA0.out⟩
      · have HF := Lib.hid (orderNames_none HE.out h0 (by have := HFL.out; omega))
        clear h0
        go_enter Tryd.func121, Tryd.ntmps121
        go_wp2_with fail
        refine (TreeCheck_any _ l _ HM.out H.out).mono ?_
        rintro e wc ⟨rfl, hb⟩
        have HBC := Lib.hid hb
        have HCC := Lib.hid (HCW.out.below hb)
        rw [HE.out]
        clear hb
        go_wp2_with fail
        refine (Find_at b off cap l dir wc hle HCAP.out HCC.out).mono ?_
        rintro e wa ⟨rfl, hb⟩
        have HBA0 := Lib.hid (HBC.out.trans (hb.mono HBC.out.size))
        have HC := Lib.hid (HCC.out.below hb)
        rw [show findIE (treeFind l dir) l.length = (0, 5) from if_neg hfd]
        clear hb
        go_wp2
        go_ret2
        rw [HF.out]
        exact ⟨_, rfl, World.ownsRow_nil _ _ _ 1, HBA0.out⟩
  · have HF := Lib.hid (orderNames_bad (dir := dir) hE)
    have HE := Lib.hid hE
    clear hE
    go_enter Tryd.func121, Tryd.ntmps121
    go_wp2_with fail
    refine (TreeCheck_any _ l _ HM.out H.out).mono ?_
    rintro e wc ⟨rfl, hb⟩
    have HBC := Lib.hid hb
    clear hb
    have hne := HE.out
    generalize treeFault l = q at *
    go_wp2
    go_ret2
    rw [HF.out]
    exact ⟨_, rfl, World.ownsRow_nil _ _ _ 1, HBC.out⟩
set_option maxRecDepth 100000 in
theorem OrderNamesL_nil (a : Option Addr) (cap : Nat) (dir : ByteArray) (w : World) (hM : MaxOk w) (h : SliceC maxLen 12 (NodC maxLen) w [.slice a 0 cap] []) :
    Calls Tryd.prog 121 #[.slice a 0 cap, .string dir] w (RetSE 9 w (orderNames [] dir)) := by
  have HM := Lib.hid hM
  have H := Lib.hid h
  clear h hM
  by_cases h0 : dir.size = 0
  · have HF := Lib.hid (show orderNames [] dir = ([], 0) from orderNames_root treeFault_zero h0)
    have he := empty_t h0
    clear h0
    go_enter Tryd.func121, Tryd.ntmps121
    go_wp2_with fail
    refine (TreeCheck_any _ [] _ HM.out H.out).mono ?_
    rintro e wa ⟨rfl, hb⟩
    rw [treeFault_zero]
    have HB := Lib.hid hb
    clear hb
    go_wp2
    go_loop [9, 11, 36] (fun v _ i => i = .int .i64 0 ∧ v = .slice none 0 0) (fun v _ i => 0)
    case atStart => exact ⟨rfl, rfl⟩
    case round =>
      obtain ⟨rfl, rfl⟩ := hrel
      go_wp2
      go_ret2
      rw [HF.out]
      exact ⟨_, rfl, World.ownsRow_nil _ _ _ 1, HB.out⟩
  · have HF := Lib.hid (show orderNames [] dir = ([], 5) from orderNames_none treeFault_zero h0 rfl)
    have he := empty_f h0
    clear h0
    go_enter Tryd.func121, Tryd.ntmps121
    go_wp2_with fail
    refine (TreeCheck_any _ [] _ HM.out H.out).mono ?_
    rintro e wa ⟨rfl, hb⟩
    rw [treeFault_zero]
    have HB := Lib.hid hb
    clear hb
    go_wp2_with fail
    refine (Find_nil _ _ _ _).mono ?_
    rintro e wb ⟨rfl, hb⟩
    have HB2 := Lib.hid (HB.out.trans (hb.mono HB.out.size))
    clear hb
    go_wp2
    go_ret2
    rw [HF.out]
    exact ⟨_, rfl, World.ownsRow_nil _ _ _ 1, HB2.out⟩
theorem OrderNamesL_any (v : Value) (l : List Nod) (dir : ByteArray) (w : World) (hM : MaxOk w) (h : SliceC maxLen 12 (NodC maxLen) w [v] l) (hdir : dir.size ≤ maxLen) :
    Calls Tryd.prog 121 #[v, .string dir] w (RetSE 9 w (orderNames l dir)) := by
  rcases nods_cases h with ⟨a, cap, rfl, rfl, _⟩ | ⟨b, off, cap, rfl, h1, h2, h3, _, h4, h5⟩
  · exact OrderNamesL_nil a cap dir w hM h
  · exact OrderNamesL_at b off cap l dir w hM h1 h2 h3 h4 h hdir
end Go.Proofs.YtecmcgedeaemgaaDoor
