/-
  Texts of this proof, one behind the other: LinkF, LinkLA, FilterRun, Filtered, FilterRunA, SameEnts, MakeL, MakeR, MaxOk, Laid, PlanMakesW.
-/
import Derived.Test.YtecmcgedeaemgaaDoorTreeAll
import Derived.Test.YtecmcgedeaemgaaDoorSame
import Derived.Test.YtecmcgedeaemgaaDoorPieces
import Derived.Shaped
import Derived.Test.YtecmcgedeaemgaaDoorRows
import Derived.Deep.DeepHandedRow
import Derived.Lib.LaidTab
import Derived.Test.YtecmcgedeaemgaaDoorPlanMakesLot01
/-
  link.Firsts.
-/
namespace Go.Creel
set_option linter.unusedVariables false
open Go.RowKit
theorem linkFirsts_bad {l : List Nod} (h : ¬ treeFault l = 0) : linkFirsts l = ([], treeFault l) := by unfold linkFirsts; rw [if_pos h]
theorem linkFirsts_ok {l : List Nod} (h : treeFault l = 0) : linkFirsts l = (firstsL l l.length, 0) := by unfold linkFirsts; rw [if_neg (by simpa using h)]
theorem own_ge {t : TypeId} {w : World} {B : Nat} {v : Value} {l : List Int} (h : OwnIs t w B v l) (x : Nat) (hx : v.ownBlock = some x) : B ≤ x := by
  rcases h.form with ⟨rfl, _⟩ | ⟨g, cap, rfl, hg, _⟩
  · cases hx
  · simp [Value.ownBlock] at hx; omega
theorem ownIs_ne {t : TypeId} {w : World} {B mb : Nat} {v : Value} {l : List Int} (h : OwnIs t w B v l) (hB : mb < B) : v.ownBlock = none ∨ v.ownBlock ≠ some mb := by
  rcases h.form with ⟨rfl, _⟩ | ⟨g, cap, rfl, hg, _⟩
  · exact .inl rfl
  · refine .inr ?_
    intro e
    simp [Value.ownBlock] at e
    omega
end Go.Creel
namespace Go.Proofs.YtecmcgedeaemgaaDoor
set_option linter.unusedVariables false
set_option linter.unusedSimpArgs false
open Go.Creel Go.RowKit
/-- meet, whatever the node -/
theorem Meet_any (l : List Nod) (k tb mb B : Nat) (m : List (Int × Value)) (v : Value) (q : List Int) (w0 w : World) (hb0 : Below w0.heap.size w0 w) (hmb : w0.heap.size ≤ mb) (hB : mb < B) (htb : tb ≠ mb) (hc : w.cell? ⟨tb, 0, none⟩ = some (.map (some mb))) (hm : MapIs (fun n : Int => Value.int .i64 n) w mb m) (hf : FIdx l k m) (ho : OwnIs 3 w B v q) :
    Calls Tryd.prog 128 #[.pointer (some ⟨tb, 0, none⟩), (nk l k).val, .int .i64 (k : Int)] w fun e w' => e = .returned (.int .i64 (fstIdx l k : Int)) ∧ Below w0.heap.size w0 w' ∧ w.heap.size ≤ w'.heap.size ∧ w'.cell? ⟨tb, 0, none⟩ = some (.map (some mb)) ∧ OwnIs 3 w' B v q ∧ ∃ m', MapIs (fun n : Int => Value.int .i64 n) w' mb m' ∧ FIdx l (k + 1) m' := by
  have hlt := World.block_lt_of_cell? w _ hc
  by_cases h0 : (nk l k).same = 0
  · refine (Meet_zero tb (nk l k) k w h0).mono ?_
    rintro e w' ⟨rfl, hb⟩
    exact ⟨by rw [fstIdx_zero h0], hb0.trans (hb.mono hb0.size), hb.size, (hb.cell (p := ⟨tb, 0, none⟩) hlt).trans hc, ho.below hb, m, hm.below hb hm.lt, hf.skip h0⟩
  · have ha := hf _ h0
    cases hj : fstAt l k (nk l k).same with
    | some j =>
      rw [hj] at ha
      refine (Meet_has tb mb m (nk l k) k j w h0 hc hm ha).mono ?_
      rintro e w' ⟨rfl, hb⟩
      exact ⟨by rw [fstIdx_some h0 hj], hb0.trans (hb.mono hb0.size), hb.size, (hb.cell (p := ⟨tb, 0, none⟩) hlt).trans hc, ho.below hb, m, hm.below hb hm.lt, hf.has hj⟩
    | none =>
      rw [hj] at ha
      refine (Meet_new tb mb m (nk l k) k w h0 hc hm ha).mono ?_
      rintro e w' ⟨rfl, hm', hg⟩
      refine ⟨by rw [fstIdx_none h0 hj], hb0.grown hg hb0.size (fun x hx => by cases hx; exact hmb), hg.size, ?_, World.ownsRow.kept ho hg (ownIs_ne ho hB), _, hm', hf.put h0 hj⟩
      exact hg.cell hc (by simpa using htb)
set_option maxRecDepth 100000 in
set_option maxHeartbeats 4000000 in
theorem LinkL_at (b off cap : Nat) (l : List Nod) (w : World) (hM : MaxOk w) (hpos : 0 < l.length) (hle : l.length ≤ cap) (hm : cap ≤ maxLen) (hc : NodsAt w b off l) (h : SliceC maxLen 12 (NodC maxLen) w [.slice (some ⟨b, off, none⟩) l.length cap] l) :
    Calls Tryd.prog 98 #[.slice (some ⟨b, off, none⟩) l.length cap] w (RetIE 3 w (linkFirsts l)) := by
  obtain ⟨i0, hi, hz0, hz1, hz2⟩ := info_parts info_int
  have HI := Lib.hid (And.intro hi (And.intro hz0 (And.intro hz1 hz2)))
  have H := Lib.hid h
  have HM := Lib.hid hM
  have HCW := Lib.hid hc
  unfold maxLen at hm
  clear h hM hc hi hz0 hz1 hz2
  have hmm := @run_makeMap Tryd.prog
  by_cases hE : treeFault l = 0
  · have HE := Lib.hid hE
    have HF := Lib.hid (linkFirsts_ok hE)
    have hfew := (treeFault_all hE).1
    clear hE
    go_enter Tryd.func98, Tryd.ntmps98
    go_wp2_with fail
    refine (TreeCheck_any _ l _ HM.out H.out).mono ?_
    rintro e wa ⟨rfl, hb⟩
    have HBA0 := Lib.hid hb
    have HC := Lib.hid (HCW.out.below hb)
    rw [HE.out]
    clear hb
    have HB1 := Lib.hid ((Below.refl wa.heap.size wa).alloc (Nat.le_refl _) (.map #[] 0))
    have HM1 := Lib.hid (MapIs.made (fun n : Int => Value.int .i64 n) wa)
    go_wp2
    clear hmm
    have HC2 : Hid (((wa.alloc (.map #[] 0)).alloc (.cells #[.map (some wa.heap.size)] 142)).cell? ⟨wa.heap.size + 1, 0, none⟩ = some (.map (some wa.heap.size))) := Lib.hid (by
      have e : (wa.alloc (.map #[] 0)).heap.size = wa.heap.size + 1 := by simp
      rw [← e]
      simp [World.cell?_alloc_new])
    have HB2 := Lib.hid (HB1.out.alloc HB1.out.size (.cells #[.map (some wa.heap.size)] 142))
    have HM2 := Lib.hid (HM1.out.below ((Below.refl _ _).alloc (Nat.le_refl _) (.cells #[.map (some wa.heap.size)] 142)) HM1.out.lt)
    generalize hmb : wa.heap.size = mb at HC2 HM2
    have HMB := Lib.hid hmb
    have HB2m : Hid (Below wa.heap.size wa ((wa.alloc (.map #[] 0)).alloc (.cells #[.map (some mb)] 142))) := Lib.hid (by rw [← hmb]; exact HB2.out)
    go_loopw [6, 7, 8, 19] (fun v _ _ i wr => ∃ k : Nat, k ≤ l.length ∧ i = .int .i64 k ∧ Hid (OwnIs 3 wr (mb + 2) v (firstsL l k)) ∧ Hid (Below wa.heap.size wa wr) ∧ Hid (mb + 2 ≤ wr.heap.size) ∧ Hid (wr.cell? ⟨mb + 1, 0, none⟩ = some (.map (some mb))) ∧ Hid (∃ m, MapIs (fun n : Int => Value.int .i64 n) wr mb m ∧ FIdx l k m)) (fun _ _ _ i _ => l.length - (intOf i).toNat)
    case atStart => exact ⟨0, by omega, rfl, Lib.hid (World.ownsRow_nil _ _ _ 1), HB2m, Lib.hid (by rw [← HMB.out]; simp), HC2, Lib.hid ⟨[], HM2.out, FIdx.start l⟩⟩
    case round =>
      obtain ⟨k, hk, rfl, HOW, HB, HSZ, HCT, HMM⟩ := hrel
      have hfl := firstsL_len l k
      by_cases hlt : k < l.length
      · obtain ⟨h0, h1, h2, h3, h4, h5, h6, h7, h8, h9, h10, h11⟩ := (HC.out.below HB.out) k hlt
        go_wp2_with fail
        have hbx := (Below.refl wr.heap.size wr).alloc (Nat.le_refl _) (boxOf (nk l k))
        obtain ⟨m, hm1, hm2⟩ := HMM.out
        refine (Meet_any l k (mb + 1) mb (mb + 2) m _ _ wa _ (HB.out.alloc HB.out.size (boxOf (nk l k))) (by rw [HMB.out]; exact Nat.le_refl _) (by omega) (by omega) ((hbx.cell (p := ⟨mb + 1, 0, none⟩) (Nat.lt_of_lt_of_le (Nat.lt_succ_self _) HSZ.out)).trans HCT.out) (hm1.below hbx hm1.lt) hm2 (HOW.out.below hbx)).mono ?_
        rintro e w3 ⟨rfl, hb, hsz, hct, ho, hmm⟩
        have HB3 := Lib.hid hb
        have HSZ3 := Lib.hid (Nat.le_trans (Nat.le_trans HSZ.out hbx.size) hsz)
        have HA := Lib.hid ((Below.refl w3.heap.size w3).alloc (Nat.le_refl _) (.cells #[.int .i64 (fstIdx l k : Int)] 3))
        have HOA := Lib.hid (OwnIs.below ho HA.out)
        have HBA := Lib.hid (hb.trans (HA.out.mono hb.size))
        have HSA := Lib.hid (Nat.le_trans HSZ3.out HA.out.size)
        have HCA := Lib.hid ((HA.out.cell (p := ⟨mb + 1, 0, none⟩) (World.block_lt_of_cell? w3 _ hct)).trans hct)
        have HMA := Lib.hid (show ∃ m, MapIs (fun n : Int => Value.int .i64 n) (w3.alloc (.cells #[.int .i64 (fstIdx l k : Int)] 3)) mb m ∧ FIdx l (k + 1) m by
          obtain ⟨m', a, c⟩ := hmm
          exact ⟨m', a.below HA.out a.lt, c⟩)
        have HS := Lib.hid (firstsL_succ l k)
        clear hb hsz hct ho hmm hbx hm1 hm2 h0 h1 h2 h3 h4 h5 h6 h7 h8 h9 h10 h11
        generalize fstIdx l k = n at *
        go_wp2_with (at_builtin; refine wpList_app _ rfl (.tmp 24) (.tmp 29) 112 112 rfl _ _ rfl rfl (n := (firstsL l k).length) (fun ty => app_src _ _ _ _ (mb + 2) 3 i0 (.int .i64 0) 1 8 Tryd.underlying112 HI.out.1 HI.out.2.1 HI.out.2.2.1 HI.out.2.2.2 rfl (by decide) _ _ _ _ _ _ HOA.out (src_one w3 _ _ _ Tryd.underlying112 _ rfl) (by unfold maxLen; omega) (by omega) HSA.out) ?_; intro v1 w4 ho hg _)
        have HO4 := Lib.hid (OwnIs.app (m := [(n : Int)]) ho)
        have HNE := Lib.hid (own_ge HOA.out)
        have HB4 := Lib.hid (HBA.out.grown hg HBA.out.size (fun x hx => by have := HNE.out x hx; rw [HMB.out]; omega))
        have HS4 := Lib.hid (Nat.le_trans HSA.out hg.size)
        have HC4 := Lib.hid (hg.cell HCA.out (fun e => by have := HNE.out _ e.symm; simp at this <;> omega))
        have HM4 := Lib.hid (show ∃ m, MapIs (fun n : Int => Value.int .i64 n) w4 mb m ∧ FIdx l (k + 1) m by
          obtain ⟨m', a, c⟩ := HMA.out
          exact ⟨m', a.of_heap (hg.block mb a.lt (fun e => by have := HNE.out _ e.symm; omega)), c⟩)
        clear ho hg
        go_wp2
        go_roundw
        case rel => exact ⟨k + 1, by omega, by go_num, Lib.hid (by rw [HS.out]; exact HO4.out), HB4, HS4, HC4, HM4⟩
        case measure => simp [intOf]; omega
      · obtain rfl : k = l.length := by omega
        have HGE := Lib.hid (show w.heap.size ≤ mb + 2 by have := HBA0.out.size; have := HMB.out; omega)
        go_wp2
        go_ret2
        rw [HF.out]
        exact ⟨_, rfl, HOW.out.mono HGE.out, HBA0.out.trans (HB.out.mono HBA0.out.size)⟩
  · have HF := Lib.hid (linkFirsts_bad hE)
    have HE := Lib.hid hE
    clear hE hmm
    go_enter Tryd.func98, Tryd.ntmps98
    go_wp2_with fail
    refine (TreeCheck_any _ l _ HM.out H.out).mono ?_
    rintro e wc ⟨rfl, hb⟩
    have HBC := Lib.hid hb
    clear hb
    have hne := HE.out
    generalize treeFault l = q at *
    go_wp2
    go_ret2
    rw [HF.out]
    exact ⟨_, rfl, World.ownsRow_nil _ _ _ 1, HBC.out⟩
end Go.Proofs.YtecmcgedeaemgaaDoor
/-
  link.Firsts, at every argument.
-/
namespace Go.Proofs.YtecmcgedeaemgaaDoor
set_option linter.unusedVariables false
set_option linter.unusedSimpArgs false
open Go.Creel Go.RowKit
set_option maxRecDepth 100000 in
theorem LinkL_nil (a : Option Addr) (cap : Nat) (w : World) (hM : MaxOk w) (h : SliceC maxLen 12 (NodC maxLen) w [.slice a 0 cap] []) :
    Calls Tryd.prog 98 #[.slice a 0 cap] w (RetIE 3 w (linkFirsts [])) := by
  have HM := Lib.hid hM
  have H := Lib.hid h
  have HF := Lib.hid (show linkFirsts [] = ([], 0) from linkFirsts_ok treeFault_zero)
  have hmm := @run_makeMap Tryd.prog
  clear h hM
  go_enter Tryd.func98, Tryd.ntmps98
  go_wp2_with fail
  refine (TreeCheck_any _ [] _ HM.out H.out).mono ?_
  rintro e wa ⟨rfl, hb⟩
  rw [treeFault_zero]
  have HB := Lib.hid hb
  clear hb
  have HB1 := Lib.hid ((HB.out.alloc HB.out.size (.map #[] 0)))
  have HB2 := Lib.hid (HB1.out.alloc HB1.out.size (.cells #[.map (some wa.heap.size)] 142))
  go_wp2
  go_loop [6, 7, 8, 19] (fun v _ _ i => i = .int .i64 0 ∧ v = .slice none 0 0) (fun _ _ _ _ => 0)
  case atStart => exact ⟨rfl, rfl⟩
  case round =>
    obtain ⟨rfl, rfl⟩ := hrel
    go_wp2
    go_ret2
    rw [HF.out]
    exact ⟨_, rfl, World.ownsRow_nil _ _ _ 1, HB2.out⟩
theorem LinkL_any (v : Value) (l : List Nod) (w : World) (hM : MaxOk w) (h : SliceC maxLen 12 (NodC maxLen) w [v] l) :
    Calls Tryd.prog 98 #[v] w (RetIE 3 w (linkFirsts l)) := by
  rcases nods_cases h with ⟨a, cap, rfl, rfl, _⟩ | ⟨b, off, cap, rfl, h1, h2, h3, _, h4, h5⟩
  · exact LinkL_nil a cap w hM h
  · exact LinkL_at b off cap l w hM h1 h2 h3 h4 h
end Go.Proofs.YtecmcgedeaemgaaDoor
/-
  filter.Run, walked.
-/
namespace Go.Proofs.YtecmcgedeaemgaaDoor
theorem findIE_yes {n m : Nat} (h : n < m) : findIE n m = ((n : Int), 0) := if_pos h
theorem findIE_no {n m : Nat} (h : ¬ n < m) : findIE n m = (0, 5) := if_neg h
end Go.Proofs.YtecmcgedeaemgaaDoor
namespace Go.Proofs.YtecmcgedeaemgaaDoor
set_option linter.unusedVariables false
set_option linter.unusedSimpArgs false
open Go.Creel Go.RowKit
set_option maxRecDepth 100000 in
set_option maxHeartbeats 4000000 in
theorem RunL_at (b off cap : Nat) (l : List Nod) (rv : Value) (r : List Rul) (w : World) (hM : MaxOk w) (hpos : 0 < l.length) (hle : l.length ≤ cap) (hm : cap ≤ maxLen) (hc : NodsAt w b off l) (hok : ∀ i, i < l.length → (nk l i).Ok maxLen w) (h : SliceC maxLen 12 (NodC maxLen) w [.slice (some ⟨b, off, none⟩) l.length cap] l) (hr : SliceC maxLen 2 (RulC maxLen) w [rv] r) (hE : treeFault l = 0) (hR : rulesFault r = 0) :
    Calls Tryd.prog 46 #[.slice (some ⟨b, off, none⟩) l.length cap, rv] w (RetTE 48 w (filtered l r)) := by
  obtain ⟨i0, hi, hz0, hz1, hz2⟩ := info_parts info_node
  have HI := Lib.hid (And.intro hi (And.intro hz0 (And.intro hz1 hz2)))
  have HM := Lib.hid hM
  have H := Lib.hid h
  have HR := Lib.hid hr
  have HC := Lib.hid hc
  have HK := Lib.hid hok
  unfold maxLen at hm
  have HF := Lib.hid (filtered_ok hE hR)
  have hfew := (treeFault_all hE).1
  have HD := Lib.hid (treeFault_dat hE)
  have HPS := Lib.hid (fun k (hk : k < l.length) => nodFault_size ((treeFault_all hE).2 k hk))
  have HPP := Lib.hid (fun k (hk : k < l.length) => nodFault_pos ((treeFault_all hE).2 k hk))
  have HKU := Lib.hid (fun k (hk : k < l.length) => keep_up (r := r) hE hk)
  have HCT := Lib.hid (fun w hM (h : SliceC maxLen 12 (NodC maxLen) w [.slice (some ⟨b, off, none⟩) l.length cap] l) => TreeCheck_any _ l w hM h)
  have HCR := Lib.hid (fun w hM (h : SliceC maxLen 2 (RulC maxLen) w [rv] r) => RulesL_any rv r w hM h)
  rw [hE] at HCT
  rw [hR] at HCR
  clear h hc hok hi hz0 hz1 hz2 hM hr hE hR
  go_enter Tryd.func46, Tryd.ntmps46
  go_wp2_with fail
  refine (HCT.out _ HM.out H.out).mono ?_
  rintro e w1 ⟨rfl, hb⟩
  have HB1 := Lib.hid hb
  clear hb
  go_wp2_with fail
  refine (HCR.out _ (HM.out.below HB1.out) (ruls_below HR.out HB1.out)).mono ?_
  rintro e w2 ⟨rfl, hb⟩
  have HB2 := Lib.hid (HB1.out.trans (hb.mono HB1.out.size))
  clear hb
  go_wp2
  go_loopw [8, 10, 11, 12, 25] (fun v8 _ _ _ i wr => ∃ (k : Nat) (v : Value), k ≤ l.length ∧ i = .int .i64 k ∧ v = v8 ∧ Hid (OwnNods 48 wr w.heap.size v ((l.take k).filter (keptB r))) ∧ Hid (Below w.heap.size w wr)) (fun _ _ _ _ i _ => l.length - (intOf i).toNat)
  case atStart => exact ⟨0, _, by omega, rfl, rfl, Lib.hid (OwnNods.nil _ _ _), HB2⟩
  case round =>
    obtain ⟨k, v, hk, rfl, rfl, HOW, HB⟩ := hrel
    by_cases hlt : k < l.length
    · obtain ⟨h0, h1, h2, h3, h4, h5, h6, h7, h8, h9, h10, h11⟩ := (HC.out.below HB.out) k hlt
      have HKX := Lib.hid (HK.out k hlt)
      have HPX := Lib.hid (HPS.out k hlt)
      have HKN := Lib.hid (fun h => keep_none (r := r) (i := k) h (HPP.out k hlt))
      have HKR := Lib.hid (fun h h2 => keep_root (r := r) (i := k) h (HPP.out k hlt) h2)
      have HKY := Lib.hid (fun h h2 => HKU.out k hlt h (HPP.out k hlt) h2)
      have HKE := Lib.hid (fun h => filterTo_keep (p := keptB r) hlt h)
      have HSK := Lib.hid (fun h => filterTo_skip (p := keptB r) hlt h)
      have hcl : ((l.take k).filter (keptB r)).length ≤ k := Nat.le_trans (List.length_filter_le _ _) (by rw [List.length_take]; omega)
      have HUS := Lib.hid (Nat.le_trans (up_size (nk l k).path) HPX.out)
      generalize nk l k = x at *
      generalize hcc : (l.take k).filter (keptB r) = c at *
      clear hcc
      have HBX := Lib.hid ((Below.refl wr.heap.size wr).alloc (Nat.le_refl _) (boxOf x))
      have HBZ := Lib.hid (nodAt_box wr x 48)
      have HU := Lib.hid (fun w : World => Up_any x.path w (Nat.le_trans HPX.out (by omega)))
      have HT := Lib.hid (fun (w : World) hM h => TakesL_any rv r x.path w hM (Nat.le_trans HPX.out (by unfold maxLen; omega)) h)
      have HFD := Lib.hid (fun (w : World) h => FindN_any v c (pathUp x.path) w h)
      generalize pathUp x.path = up at *
      generalize hfi : findIE (treeFind c up) c.length = fi at *
      obtain ⟨f1, f2⟩ := fi
      have HFI := Lib.hid hfi
      clear hfi
      have HSL := Lib.hid (HOW.out.slice (by unfold maxLen; omega))
      go_wp2_with fail
      refine (HU.out _).mono ?_
      rintro e w3 ⟨rfl, rfl⟩
      go_wp2_with fail
      refine (HFD.out _ (nods_below HSL.out HBX.out)).mono ?_
      rintro e w3 ⟨rfl, hb⟩
      have HB3 := Lib.hid (HBX.out.trans (hb.mono HBX.out.size))
      obtain ⟨d0, _⟩ := (HBZ.out.below hb).zero
      have HBZ3 := Lib.hid (HBZ.out.below hb)
      clear hb
      have HW3 := Lib.hid (HB.out.trans (HB3.out.mono HB.out.size))
      go_wp2_with fail
      refine (HT.out _ (HM.out.below HW3.out) (ruls_below HR.out HW3.out)).mono ?_
      rintro e w4 ⟨rfl, hb⟩
      have HB4 := Lib.hid (HB3.out.trans (hb.mono HB3.out.size))
      obtain ⟨c0, c1, c2, c3, c4, c5, c6, c7, c8, c9, c10, c11⟩ := (HBZ3.out.below hb).zero
      clear hb d0
      have HW4 := Lib.hid (HB.out.trans (HB4.out.mono HB.out.size))
      have HO4 := Lib.hid (HOW.out.below HB4.out)
      cases htk : takenR r x.path with
      | false =>
        have HSK2 := Lib.hid (HSK.out (HKN.out htk))
        clear htk
        go_wp2
        go_roundw
        case rel => exact ⟨k + 1, _, by omega, by go_num, rfl, Lib.hid (by rw [HSK2.out]; exact HO4.out), HW4⟩
        case measure => simp [intOf]; omega
      | true =>
        have HA := Lib.hid (HB4.out.alloc HB4.out.size (boxOf x))
        have HO3 := Lib.hid (HOW.out.below HA.out)
        have HBA := Lib.hid (HB.out.trans (HA.out.mono HB.out.size))
        have HN3 := Lib.hid (nodIn_arg HKX.out HBA.out HOW.out)
        have HFIN := Lib.hid (show ∀ v2 w4', w4'.ownsRow w.heap.size 48 12 v2 (c.length + 1) (c.flatMap Nod.cells ++ [x].flatMap Nod.cells) → (w4.alloc (boxOf x)).grownBy w4' v.ownBlock → (v2.ownBlock = v.ownBlock ∨ ∃ b, v2.ownBlock = some b ∧ (w4.alloc (boxOf x)).heap.size ≤ b) → OwnNods 48 w4' w.heap.size v2 (c ++ [x]) ∧ Below w.heap.size w w4' from
          fun v2 w4' ho2 hg2 hv2 => ⟨HO3.out.app (m := [x]) (fun y hy => by rw [List.mem_singleton.1 hy]; exact HN3.out) ho2 hg2 hv2, below_app HBA.out hg2 HO3.out.1 HBA.out.size⟩)
        by_cases hu : up.size = 0
        · have he := empty_t hu
          have HKE2 := Lib.hid (HKE.out (HKR.out htk hu))
          clear htk hu
          go_wp2_with (first
            | (go_at_call 94; refine (HU.out _).mono ?_; rintro e w5 ⟨rfl, rfl⟩)
            | (at_builtin; refine wpList_app _ rfl (.tmp 51) (.tmp 53) 40 40 rfl _ _ rfl rfl (fun ty => app_src _ 40 40 ty w.heap.size 48 i0 _ 12 144 Tryd.underlying40 HI.out.1 HI.out.2.1 HI.out.2.2.1 HI.out.2.2.2 rfl (by decide) _ _ c.length 1 _ _ HO3.out.1 (src_nod w4 _ _ _ Tryd.underlying40 x) (by unfold maxLen; omega) (by omega) HBA.out.size) ?_; intro v2 w5 ho2 hg2 hv2; have HZ := Lib.hid (HFIN.out v2 w5 ho2 hg2 hv2.2); clear ho2 hg2 hv2))
          go_wp2
          go_roundw
          case rel => exact ⟨k + 1, _, by omega, by go_num, rfl, Lib.hid (by rw [HKE2.out]; exact HZ.out.1), Lib.hid HZ.out.2⟩
          case measure => simp [intOf]; omega
        · have he := empty_f hu
          have HKB := Lib.hid (HKY.out htk hu)
          clear htk hu
          by_cases hfd : treeFind c up < c.length
          · have HKE2 := Lib.hid (HKE.out (by rw [HKB.out]; exact decide_eq_true hfd))
            have hf2 : f2 = 0 := by have := HFI.out; rw [findIE_yes hfd] at this; exact (congrArg Prod.snd this).symm
            subst hf2
            clear hfd
            go_wp2_with (first
              | (go_at_call 94; refine (HU.out _).mono ?_; rintro e w5 ⟨rfl, rfl⟩)
              | (at_builtin; refine wpList_app _ rfl (.tmp 51) (.tmp 53) 40 40 rfl _ _ rfl rfl (fun ty => app_src _ 40 40 ty w.heap.size 48 i0 _ 12 144 Tryd.underlying40 HI.out.1 HI.out.2.1 HI.out.2.2.1 HI.out.2.2.2 rfl (by decide) _ _ c.length 1 _ _ HO3.out.1 (src_nod w4 _ _ _ Tryd.underlying40 x) (by unfold maxLen; omega) (by omega) HBA.out.size) ?_; intro v2 w5 ho2 hg2 hv2; have HZ := Lib.hid (HFIN.out v2 w5 ho2 hg2 hv2.2); clear ho2 hg2 hv2))
            go_wp2
            go_roundw
            case rel => exact ⟨k + 1, _, by omega, by go_num, rfl, Lib.hid (by rw [HKE2.out]; exact HZ.out.1), Lib.hid HZ.out.2⟩
            case measure => simp [intOf]; omega
          · have HSK2 := Lib.hid (HSK.out (by rw [HKB.out]; exact decide_eq_false hfd))
            have hf2 : f2 = 5 := by have := HFI.out; rw [findIE_no hfd] at this; exact (congrArg Prod.snd this).symm
            subst hf2
            clear hfd
            go_wp2_with (go_at_call 94; refine (HU.out _).mono ?_; rintro e w5 ⟨rfl, rfl⟩)
            go_roundw
            case rel => exact ⟨k + 1, _, by omega, by go_num, rfl, Lib.hid (by rw [HSK2.out]; exact HO4.out), HW4⟩
            case measure => simp [intOf]; omega
    · obtain rfl : k = l.length := by omega
      rw [List.take_length] at HOW
      have hcl : (l.filter (keptB r)).length ≤ l.length := List.length_filter_le _ _
      go_wp2_with fail
      refine (CopyL_any _ (l.filter (keptB r)) _ (HOW.out.slice (by unfold maxLen; omega)) (by omega) (filter_dat _ HD.out)).mono ?_
      rintro e w5 ⟨v5, c, rfl, ho, hcb, hb⟩
      have HO5 := Lib.hid (ho.mono HB.out.size)
      have HB5 := Lib.hid (HB.out.trans (hb.mono HB.out.size))
      have HC5 := Lib.hid hcb
      clear ho hb hcb
      go_wp2
      go_ret2
      rw [HF.out]
      exact ⟨_, c, rfl, HO5.out, HC5.out, HB5.out⟩
end Go.Proofs.YtecmcgedeaemgaaDoor
/-
  creelref.Filtered, walked.
-/
namespace Go.Creel
set_option linter.unusedVariables false
/-- the walk up a path: what is said so far, and what is left -/
def UpTo (r : List Rul) (s : ByteArray) (q : Bool) (t : ByteArray) : Prop := t.size ≤ 400 ∧ (q && allTk r t) = allTk r s
theorem UpTo.start {r : List Rul} {s : ByteArray} (h : s.size ≤ 400) : UpTo r s true s := ⟨h, Bool.true_and _⟩
theorem UpTo.next {r : List Rul} {s t : ByteArray} {q : Bool} (h : UpTo r s q t) (ht : 0 < t.size) : UpTo r s (q && takenR r t) (pathUp t) ∧ (pathUp t).size < t.size := by
  have hl := up_lt ht
  refine ⟨⟨by have := h.1; omega, ?_⟩, hl⟩
  rw [← h.2, allTk_more ht, Bool.and_assoc]
theorem UpTo.next_f {r : List Rul} {s t : ByteArray} (h : UpTo r s false t) (ht : 0 < t.size) : UpTo r s false (pathUp t) ∧ (pathUp t).size < t.size := by
  have := h.next ht
  rwa [Bool.false_and] at this
theorem UpTo.done {r : List Rul} {s t : ByteArray} {q : Bool} (h : UpTo r s q t) (ht : t.size = 0) : allTk r s = q := by
  rw [← h.2, allTk_none ht, Bool.and_true]
end Go.Creel
namespace Go.Proofs.YtecmcgedeaemgaaDoor
set_option linter.unusedVariables false
set_option linter.unusedSimpArgs false
open Go.Creel Go.RowKit
set_option maxRecDepth 100000 in
set_option maxHeartbeats 4000000 in
theorem RunR_at (b off cap : Nat) (l : List Nod) (rv : Value) (r : List Rul) (w : World) (hpos : 0 < l.length) (hle : l.length ≤ cap) (hm : cap ≤ maxLen) (hc : NodsAt w b off l) (hok : ∀ i, i < l.length → (nk l i).Ok maxLen w) (h : SliceC maxLen 12 (NodC maxLen) w [.slice (some ⟨b, off, none⟩) l.length cap] l) (hr : SliceC maxLen 2 (RulC maxLen) w [rv] r) (hE : treeFault l = 0) (hR : rulesFault r = 0) :
    Calls Tryd.prog 47 #[.slice (some ⟨b, off, none⟩) l.length cap, rv] w (RetTE 48 w (filtered l r)) := by
  obtain ⟨i0, hi, hz0, hz1, hz2⟩ := info_parts info_node
  have HI := Lib.hid (And.intro hi (And.intro hz0 (And.intro hz1 hz2)))
  have H := Lib.hid h
  have HR := Lib.hid hr
  have HC := Lib.hid hc
  have HK := Lib.hid hok
  unfold maxLen at hm
  have HF := Lib.hid (filtered_ok hE hR)
  have hfew := (treeFault_all hE).1
  have HD := Lib.hid (treeFault_dat hE)
  have HPS := Lib.hid (fun k (hk : k < l.length) => nodFault_size ((treeFault_all hE).2 k hk))
  have HCT := Lib.hid (fun w (h : SliceC maxLen 12 (NodC maxLen) w [.slice (some ⟨b, off, none⟩) l.length cap] l) => TreeFault_any _ l w h)
  have HCR := Lib.hid (fun w (h : SliceC maxLen 2 (RulC maxLen) w [rv] r) => RulesR_any rv r w h)
  rw [hE] at HCT
  rw [hR] at HCR
  clear h hc hok hi hz0 hz1 hz2 hr hE hR
  go_enter Tryd.func47, Tryd.ntmps47
  go_wp2_with fail
  refine (HCT.out _ H.out).mono ?_
  rintro e w1 ⟨rfl, hb⟩
  have HB1 := Lib.hid hb
  clear hb
  go_wp2_with fail
  refine (HCR.out _ (ruls_below HR.out HB1.out)).mono ?_
  rintro e w2 ⟨rfl, hb⟩
  have HB2 := Lib.hid (HB1.out.trans (hb.mono HB1.out.size))
  clear hb
  go_wp2
  go_loopw [8, 10, 11, 12, 25] (fun v _ _ _ i wr => ∃ k : Nat, k ≤ l.length ∧ i = .int .i64 k ∧ Hid (OwnNods 48 wr w.heap.size v ((l.take k).filter (keptB r))) ∧ Hid (Below w.heap.size w wr)) (fun _ _ _ _ i _ => l.length - (intOf i).toNat)
  case atStart => exact ⟨0, by omega, rfl, Lib.hid (OwnNods.nil _ _ _), HB2⟩
  case round =>
    obtain ⟨k, hk, rfl, HOW, HB⟩ := hrel
    by_cases hlt : k < l.length
    · obtain ⟨h0, h1, h2, h3, h4, h5, h6, h7, h8, h9, h10, h11⟩ := (HC.out.below HB.out) k hlt
      have HKX := Lib.hid (HK.out k hlt)
      have HPX := Lib.hid (HPS.out k hlt)
      have HKE := Lib.hid (fun h => filterTo_keep (p := keptB r) hlt h)
      have HSK := Lib.hid (fun h => filterTo_skip (p := keptB r) hlt h)
      have hcl : ((l.take k).filter (keptB r)).length ≤ k := Nat.le_trans (List.length_filter_le _ _) (by rw [List.length_take]; omega)
      generalize nk l k = x at *
      generalize hcc : (l.take k).filter (keptB r) = c at *
      clear hcc
      have HBX := Lib.hid ((Below.refl wr.heap.size wr).alloc (Nat.le_refl _) (boxOf x))
      have HBZ := Lib.hid (nodAt_box wr x 48)
      obtain ⟨wo, rfl⟩ : ∃ wo : World, wo = wr := ⟨_, rfl⟩
      go_wp2
      go_loopw [11, 12] (fun v11 v12 w5 => ∃ (q : Bool) (t : ByteArray), v11 = .bool q ∧ v12 = .string t ∧ Hid (UpTo r x.path q t) ∧ Hid (Below wo.heap.size wo w5) ∧ Hid (NodAt w5 wo.heap.size 0 x)) (fun _ v12 _ => slen v12)
      case atStart => exact ⟨true, x.path, rfl, rfl, Lib.hid (UpTo.start HPX.out), HBX, HBZ⟩
      case round =>
        obtain ⟨q, t, rfl, rfl, HUP, HB5, HZ5⟩ := hrel
        have HW5 := Lib.hid (HB.out.trans (HB5.out.mono HB.out.size))
        have hts := HUP.out.1
        by_cases ht : t.size = 0
        · have he := empty_t ht
          have HQ := Lib.hid (show keptB r x = q from HUP.out.done ht)
          obtain ⟨c0, c1, c2, c3, c4, c5, c6, c7, c8, c9, c10, c11⟩ := HZ5.out.zero
          clear ht
          cases q with
          | false =>
            have HSK2 := Lib.hid (HSK.out HQ.out)
            go_wp2
            go_roundw
            case rel => exact ⟨k + 1, by omega, by go_num, Lib.hid (by rw [HSK2.out]; exact HOW.out.below HB5.out), HW5⟩
            case measure => simp [intOf]; omega
          | true =>
            have HKE2 := Lib.hid (HKE.out HQ.out)
            have HA := Lib.hid (HB5.out.alloc HB5.out.size (boxOf x))
            have HO3 := Lib.hid (HOW.out.below HA.out)
            have HBA := Lib.hid (HB.out.trans (HA.out.mono HB.out.size))
            have HN3 := Lib.hid (nodIn_arg HKX.out HBA.out HOW.out)
            go_wp2_with (at_builtin; refine wpList_app _ rfl (.tmp 45) (.tmp 47) 40 40 rfl _ _ rfl rfl (fun ty => app_src _ 40 40 ty w.heap.size 48 i0 _ 12 144 Tryd.underlying40 HI.out.1 HI.out.2.1 HI.out.2.2.1 HI.out.2.2.2 rfl (by decide) _ _ c.length 1 _ _ HO3.out.1 (src_nod wr _ _ _ Tryd.underlying40 x) (by unfold maxLen; omega) (by omega) HBA.out.size) ?_; intro v2 w6 ho2 hg2 hv2; have HZ := Lib.hid (And.intro ho2 (And.intro hg2 hv2)); clear ho2 hg2 hv2)
            have HO4 := Lib.hid (HO3.out.app (m := [x]) (fun y hy => by rw [List.mem_singleton.1 hy]; exact HN3.out) HZ.out.1 HZ.out.2.1 HZ.out.2.2.2)
            have HB4 := Lib.hid (below_app HBA.out HZ.out.2.1 HO3.out.1 HBA.out.size)
            go_wp2
            go_roundw
            case rel => exact ⟨k + 1, by omega, by go_num, Lib.hid (by rw [HKE2.out]; exact HO4.out), HB4⟩
            case measure => simp [intOf]; omega
        · have he := empty_f ht
          have hne : (!t.toList.isEmpty) = true := by rw [he]; rfl
          have HT := Lib.hid (fun (w : World) h => TakenR_any rv r t w (by unfold maxLen; omega) h)
          have HS := Lib.hid (fun w => PathSplit_any t w (by omega))
          cases q with
          | false =>
            have HNX := Lib.hid (HUP.out.next_f (by omega))
            generalize pathUp t = u at *
            clear ht
            go_wp2_with fail
            refine (HS.out _).mono ?_
            rintro e w6 ⟨rfl, hb⟩
            have HB6 := Lib.hid (HB5.out.trans (hb.mono HB5.out.size))
            have HZ6 := Lib.hid (HZ5.out.below hb)
            clear hb
            go_wp2
            go_roundw
            case rel => exact ⟨_, _, rfl, rfl, Lib.hid HNX.out.1, HB6, HZ6⟩
            case measure => simp only [slen]; exact HNX.out.2
          | true =>
            have HNX := Lib.hid (HUP.out.next (by omega))
            rw [Bool.true_and] at HNX
            generalize pathUp t = u at *
            generalize takenR r t = tk at *
            clear ht
            go_wp2_with fail
            refine (HT.out _ (ruls_below HR.out HW5.out)).mono ?_
            rintro e w6 ⟨rfl, hb⟩
            have HB6 := Lib.hid (HB5.out.trans (hb.mono HB5.out.size))
            have HZ6 := Lib.hid (HZ5.out.below hb)
            clear hb
            go_wp2_with fail
            refine (HS.out _).mono ?_
            rintro e w7 ⟨rfl, hb⟩
            have HB7 := Lib.hid (HB6.out.trans (hb.mono HB6.out.size))
            have HZ7 := Lib.hid (HZ6.out.below hb)
            clear hb
            go_wp2
            go_roundw
            case rel => exact ⟨_, _, rfl, rfl, Lib.hid HNX.out.1, HB7, HZ7⟩
            case measure => simp only [slen]; exact HNX.out.2
    · obtain rfl : k = l.length := by omega
      rw [List.take_length] at HOW
      have hcl : (l.filter (keptB r)).length ≤ l.length := List.length_filter_le _ _
      go_wp2_with fail
      refine (CopyR_any _ (l.filter (keptB r)) _ (HOW.out.slice (by unfold maxLen; omega)) (by omega) (filter_dat _ HD.out)).mono ?_
      rintro e w5 ⟨v5, c, rfl, ho, hcb, hb⟩
      have HO5 := Lib.hid (ho.mono HB.out.size)
      have HB5 := Lib.hid (HB.out.trans (hb.mono HB.out.size))
      have HC5 := Lib.hid hcb
      clear ho hb hcb
      go_wp2
      go_ret2
      rw [HF.out]
      exact ⟨_, c, rfl, HO5.out, HC5.out, HB5.out⟩
end Go.Proofs.YtecmcgedeaemgaaDoor
/-
  filter.Run and its reference, at every argument.
-/
namespace Go.Creel
theorem filtered_nil {r : List Rul} (h : rulesFault r = 0) (h0 : treeFault [] = 0) : filtered [] r = ([], 0) := by rw [filtered_ok h0 h]; rfl
end Go.Creel
namespace Go.Proofs.YtecmcgedeaemgaaDoor
set_option linter.unusedVariables false
set_option linter.unusedSimpArgs false
open Go.Creel Go.RowKit
set_option maxRecDepth 100000 in
set_option maxHeartbeats 1000000 in
theorem RunL_bad (v : Value) (l : List Nod) (rv : Value) (r : List Rul) (w : World) (hM : MaxOk w) (h : SliceC maxLen 12 (NodC maxLen) w [v] l) (hr : SliceC maxLen 2 (RulC maxLen) w [rv] r) (hE : ¬ treeFault l = 0) :
    Calls Tryd.prog 46 #[v, rv] w (RetTE 48 w (filtered l r)) := by
  have HF := Lib.hid (filtered_bad (r := r) hE)
  have HC := Lib.hid (TreeCheck_any v l w hM h)
  generalize treeFault l = c at *
  have hq : (c == 0) = false := by rw [beq_eq_false_iff_ne]; exact hE
  clear hE h hr
  go_enter Tryd.func46, Tryd.ntmps46
  go_wp2_with fail
  refine HC.out.mono ?_
  rintro e w1 ⟨rfl, hb⟩
  have HB1 := Lib.hid hb
  clear hb
  go_wp2
  go_ret2
  rw [HF.out]
  exact ⟨_, [], rfl, OwnNods.nil _ _ _, rfl, HB1.out⟩
set_option maxRecDepth 100000 in
set_option maxHeartbeats 1000000 in
theorem RunL_rules (v : Value) (l : List Nod) (rv : Value) (r : List Rul) (w : World) (hM : MaxOk w) (h : SliceC maxLen 12 (NodC maxLen) w [v] l) (hr : SliceC maxLen 2 (RulC maxLen) w [rv] r) (hE : treeFault l = 0) (hR : ¬ rulesFault r = 0) :
    Calls Tryd.prog 46 #[v, rv] w (RetTE 48 w (filtered l r)) := by
  have HF := Lib.hid (filtered_rules hE hR)
  have HC := Lib.hid (TreeCheck_any v l w hM h)
  have HR := Lib.hid hr
  have HC2 := Lib.hid (fun w hM (hr : SliceC maxLen 2 (RulC maxLen) w [rv] r) => RulesL_any rv r w hM hr)
  have HM := Lib.hid hM
  clear hM
  rw [hE] at HC
  generalize rulesFault r = c at *
  have hq : (c == 0) = false := by rw [beq_eq_false_iff_ne]; exact hR
  clear hE h hr hR
  go_enter Tryd.func46, Tryd.ntmps46
  go_wp2_with fail
  refine HC.out.mono ?_
  rintro e w1 ⟨rfl, hb⟩
  have HB1 := Lib.hid hb
  clear hb
  go_wp2_with fail
  refine (HC2.out _ (HM.out.below HB1.out) (ruls_below HR.out HB1.out)).mono ?_
  rintro e w2 ⟨rfl, hb⟩
  have HB2 := Lib.hid (HB1.out.trans (hb.mono HB1.out.size))
  clear hb
  go_wp2
  go_ret2
  rw [HF.out]
  exact ⟨_, [], rfl, OwnNods.nil _ _ _, rfl, HB2.out⟩
set_option maxRecDepth 100000 in
set_option maxHeartbeats 1000000 in
theorem RunL_nil (a : Option Addr) (cap : Nat) (rv : Value) (r : List Rul) (w : World) (hM : MaxOk w) (h : SliceC maxLen 12 (NodC maxLen) w [.slice a 0 cap] []) (hr : SliceC maxLen 2 (RulC maxLen) w [rv] r) (hR : rulesFault r = 0) :
    Calls Tryd.prog 46 #[.slice a 0 cap, rv] w (RetTE 48 w (filtered [] r)) := by
  have h0 := treeFault_zero
  have HF := Lib.hid (filtered_nil hR h0)
  have HC := Lib.hid (TreeCheck_any (.slice a 0 cap) [] w hM h)
  have HR := Lib.hid hr
  have HC2 := Lib.hid (fun w hM (hr : SliceC maxLen 2 (RulC maxLen) w [rv] r) => RulesL_any rv r w hM hr)
  have HM := Lib.hid hM
  clear hM
  rw [h0] at HC
  rw [hR] at HC2
  clear h hr hR h0
  go_enter Tryd.func46, Tryd.ntmps46
  go_wp2_with fail
  refine HC.out.mono ?_
  rintro e w1 ⟨rfl, hb⟩
  have HB1 := Lib.hid hb
  clear hb
  go_wp2_with fail
  refine (HC2.out _ (HM.out.below HB1.out) (ruls_below HR.out HB1.out)).mono ?_
  rintro e w2 ⟨rfl, hb⟩
  have HB2 := Lib.hid (HB1.out.trans (hb.mono HB1.out.size))
  clear hb
  go_wp2
  go_loopw [8, 10, 11, 12, 25] (fun v8 _ _ _ i wr => v8 = .slice none 0 0 ∧ i = .int .i64 0 ∧ wr = w2) (fun _ _ _ _ _ _ => 0)
  case atStart => exact ⟨rfl, rfl, rfl⟩
  case round =>
    obtain ⟨rfl, rfl, hw⟩ := hrel
    rw [hw]
    go_wp2_with fail
    refine (CopyL_nil none 0 _).mono ?_
    rintro e w3 ⟨v3, c3, rfl, ho, hcb, hb⟩
    have HO3 := Lib.hid (ho.mono HB2.out.size)
    have HB3 := Lib.hid (HB2.out.trans (hb.mono HB2.out.size))
    have HC3 := Lib.hid hcb
    clear ho hb hcb
    go_wp2
    go_ret2
    rw [HF.out]
    exact ⟨_, c3, rfl, HO3.out, HC3.out, HB3.out⟩
theorem RunL_any (v : Value) (l : List Nod) (rv : Value) (r : List Rul) (w : World) (hM : MaxOk w) (h : SliceC maxLen 12 (NodC maxLen) w [v] l) (hr : SliceC maxLen 2 (RulC maxLen) w [rv] r) :
    Calls Tryd.prog 46 #[v, rv] w (RetTE 48 w (filtered l r)) := by
  by_cases hE : treeFault l = 0
  · by_cases hR : rulesFault r = 0
    · rcases nods_cases h with ⟨a, cap, rfl, rfl, _⟩ | ⟨b, off, cap, rfl, h1, h2, h3, h6, h4, h5⟩
      · exact RunL_nil a cap rv r w hM h hr hR
      · exact RunL_at b off cap l rv r w hM h1 h2 h3 h4 h5 h hr hE hR
    · exact RunL_rules v l rv r w hM h hr hE hR
  · exact RunL_bad v l rv r w hM h hr hE
set_option maxRecDepth 100000 in
set_option maxHeartbeats 1000000 in
theorem RunR_bad (v : Value) (l : List Nod) (rv : Value) (r : List Rul) (w : World) (h : SliceC maxLen 12 (NodC maxLen) w [v] l) (hr : SliceC maxLen 2 (RulC maxLen) w [rv] r) (hE : ¬ treeFault l = 0) :
    Calls Tryd.prog 47 #[v, rv] w (RetTE 48 w (filtered l r)) := by
  have HF := Lib.hid (filtered_bad (r := r) hE)
  have HC := Lib.hid (TreeFault_any v l w h)
  generalize treeFault l = c at *
  have hq : (c == 0) = false := by rw [beq_eq_false_iff_ne]; exact hE
  clear hE h hr
  go_enter Tryd.func47, Tryd.ntmps47
  go_wp2_with fail
  refine HC.out.mono ?_
  rintro e w1 ⟨rfl, hb⟩
  have HB1 := Lib.hid hb
  clear hb
  go_wp2
  go_ret2
  rw [HF.out]
  exact ⟨_, [], rfl, OwnNods.nil _ _ _, rfl, HB1.out⟩
set_option maxRecDepth 100000 in
set_option maxHeartbeats 1000000 in
theorem RunR_rules (v : Value) (l : List Nod) (rv : Value) (r : List Rul) (w : World) (h : SliceC maxLen 12 (NodC maxLen) w [v] l) (hr : SliceC maxLen 2 (RulC maxLen) w [rv] r) (hE : treeFault l = 0) (hR : ¬ rulesFault r = 0) :
    Calls Tryd.prog 47 #[v, rv] w (RetTE 48 w (filtered l r)) := by
  have HF := Lib.hid (filtered_rules hE hR)
  have HC := Lib.hid (TreeFault_any v l w h)
  have HR := Lib.hid hr
  have HC2 := Lib.hid (fun w (hr : SliceC maxLen 2 (RulC maxLen) w [rv] r) => RulesR_any rv r w hr)
  rw [hE] at HC
  generalize rulesFault r = c at *
  have hq : (c == 0) = false := by rw [beq_eq_false_iff_ne]; exact hR
  clear hE h hr hR
  go_enter Tryd.func47, Tryd.ntmps47
  go_wp2_with fail
  refine HC.out.mono ?_
  rintro e w1 ⟨rfl, hb⟩
  have HB1 := Lib.hid hb
  clear hb
  go_wp2_with fail
  refine (HC2.out _ (ruls_below HR.out HB1.out)).mono ?_
  rintro e w2 ⟨rfl, hb⟩
  have HB2 := Lib.hid (HB1.out.trans (hb.mono HB1.out.size))
  clear hb
  go_wp2
  go_ret2
  rw [HF.out]
  exact ⟨_, [], rfl, OwnNods.nil _ _ _, rfl, HB2.out⟩
set_option maxRecDepth 100000 in
set_option maxHeartbeats 1000000 in
theorem RunR_nil (a : Option Addr) (cap : Nat) (rv : Value) (r : List Rul) (w : World) (h : SliceC maxLen 12 (NodC maxLen) w [.slice a 0 cap] []) (hr : SliceC maxLen 2 (RulC maxLen) w [rv] r) (hR : rulesFault r = 0) :
    Calls Tryd.prog 47 #[.slice a 0 cap, rv] w (RetTE 48 w (filtered [] r)) := by
  have h0 := treeFault_zero
  have HF := Lib.hid (filtered_nil hR h0)
  have HC := Lib.hid (TreeFault_any (.slice a 0 cap) [] w h)
  have HR := Lib.hid hr
  have HC2 := Lib.hid (fun w (hr : SliceC maxLen 2 (RulC maxLen) w [rv] r) => RulesR_any rv r w hr)
  rw [h0] at HC
  rw [hR] at HC2
  clear h hr hR h0
  go_enter Tryd.func47, Tryd.ntmps47
  go_wp2_with fail
  refine HC.out.mono ?_
  rintro e w1 ⟨rfl, hb⟩
  have HB1 := Lib.hid hb
  clear hb
  go_wp2_with fail
  refine (HC2.out _ (ruls_below HR.out HB1.out)).mono ?_
  rintro e w2 ⟨rfl, hb⟩
  have HB2 := Lib.hid (HB1.out.trans (hb.mono HB1.out.size))
  clear hb
  go_wp2
  go_loopw [8, 10, 11, 12, 25] (fun v8 _ _ _ i wr => v8 = .slice none 0 0 ∧ i = .int .i64 0 ∧ wr = w2) (fun _ _ _ _ _ _ => 0)
  case atStart => exact ⟨rfl, rfl, rfl⟩
  case round =>
    obtain ⟨rfl, rfl, hw⟩ := hrel
    rw [hw]
    go_wp2_with fail
    refine (CopyR_nil none 0 _).mono ?_
    rintro e w3 ⟨v3, c3, rfl, ho, hcb, hb⟩
    have HO3 := Lib.hid (ho.mono HB2.out.size)
    have HB3 := Lib.hid (HB2.out.trans (hb.mono HB2.out.size))
    have HC3 := Lib.hid hcb
    clear ho hb hcb
    go_wp2
    go_ret2
    rw [HF.out]
    exact ⟨_, c3, rfl, HO3.out, HC3.out, HB3.out⟩
theorem RunR_any (v : Value) (l : List Nod) (rv : Value) (r : List Rul) (w : World) (h : SliceC maxLen 12 (NodC maxLen) w [v] l) (hr : SliceC maxLen 2 (RulC maxLen) w [rv] r) :
    Calls Tryd.prog 47 #[v, rv] w (RetTE 48 w (filtered l r)) := by
  by_cases hE : treeFault l = 0
  · by_cases hR : rulesFault r = 0
    · rcases nods_cases h with ⟨a, cap, rfl, rfl, _⟩ | ⟨b, off, cap, rfl, h1, h2, h3, h6, h4, h5⟩
      · exact RunR_nil a cap rv r w h hr hR
      · exact RunR_at b off cap l rv r w h1 h2 h3 h4 h5 h hr hE hR
    · exact RunR_rules v l rv r w h hr hE hR
  · exact RunR_bad v l rv r w h hr hE
end Go.Proofs.YtecmcgedeaemgaaDoor
/-
  creellaw.sameEntries, of two lists that are the same.
-/
namespace Go.Creel
set_option linter.unusedVariables false
set_option linter.unusedSimpArgs false
theorem bareE_parts {x y : Ent} (h : x.bare = y.bare) : x.path = y.path ∧ x.kind = y.kind ∧ x.target = y.target ∧ x.mt = y.mt ∧ x.data = y.data := by
  unfold Ent.bare at h
  simp only [Ent.mk.injEq, and_true, true_and] at h
  exact h
theorem bareE_nk {l m : List Ent} (h : l.map Ent.bare = m.map Ent.bare) {k : Nat} (hk : k < l.length) : (ek l k).bare = (ek m k).bare := by
  have hl : l.length = m.length := by simpa using congrArg List.length h
  have h2 : (l.map Ent.bare)[k]? = (m.map Ent.bare)[k]? := by rw [h]
  rw [List.getElem?_map, List.getElem?_map, List.getElem?_eq_getElem hk, List.getElem?_eq_getElem (by omega)] at h2
  rw [ek_eq hk, ek_eq (by omega)]
  simpa using h2
theorem bareE_len {l m : List Ent} (h : l.map Ent.bare = m.map Ent.bare) : l.length = m.length := by simpa using congrArg List.length h
end Go.Creel
namespace Go.Proofs.YtecmcgedeaemgaaDoor
set_option linter.unusedVariables false
set_option linter.unusedSimpArgs false
open Go.Creel Go.RowKit
abbrev boxE (x : Ent) : Obj := .cells #[.string x.path, .int .i64 x.kind, .string x.target, .int .i64 x.mt.mode, .int .i64 x.mt.uid, .int .i64 x.mt.gid, .string x.mt.user, .string x.mt.group, .int .i64 x.mt.second, .int .i64 x.mt.nano, .slice x.da x.data.length x.dcap] 116
set_option maxRecDepth 100000 in
set_option maxHeartbeats 1000000 in
theorem SameEnt_eq (x y : Ent) (w : World) (hxy : x.bare = y.bare) (hx : x.Ok maxLen w) (hy : y.Ok maxLen w) :
    Calls Tryd.prog 100 #[x.val, y.val] w fun e w' => e = .returned (.bool true) ∧ Below w.heap.size w w' := by
  obtain ⟨p, k, t, m, da, dc, d⟩ := x
  obtain ⟨p', k', t', m', da', dc', d'⟩ := y
  obtain ⟨h1, h2, h3, h4, h5⟩ := bareE_parts hxy
  simp only at h1 h2 h3 h4 h5
  subst h1 h2 h3 h4 h5
  have HB := Lib.hid fun o1 o2 : Obj => ((Below.refl w.heap.size w).alloc (Nat.le_refl _) o1).alloc (by simp) o2
  have HS := Lib.hid (fun o1 o2 : Obj => sameBytes_eq (N := maxLen) (M := maxLen) (.slice da d.length dc) (.slice da' d.length dc') d ((w.alloc o1).alloc o2) (hx.data.below (fun _ _ h => h) (HB.out o1 o2)) (hy.data.below (fun _ _ h => h) (HB.out o1 o2)))
  obtain ⟨mo, ui, gi, us, gr, se, na⟩ := m
  have q1 : (p.toList == p.toList) = true := by simp
  have q2 : (k == k) = true := by simp
  have q4 : (t.toList == t.toList) = true := by simp
  have q5 : (mo == mo) = true := by simp
  have q6 : (ui == ui) = true := by simp
  have q7 : (gi == gi) = true := by simp
  have q8 : (us.toList == us.toList) = true := by simp
  have q9 : (gr.toList == gr.toList) = true := by simp
  have q10 : (se == se) = true := by simp
  have q11 : (na == na) = true := by simp
  clear hx hy hxy
  go_enter Tryd.func100, Tryd.ntmps100
  go_wp2_with fail
  refine (HS.out _ _).mono ?_
  rintro e w1 ⟨rfl, rfl⟩
  go_wp2
  go_ret
  exact ⟨rfl, HB.out _ _⟩
set_option maxRecDepth 100000 in
set_option maxHeartbeats 1000000 in
theorem EqualEnts_at (b off cap b2 off2 cap2 : Nat) (l m : List Ent) (w : World) (hpos : 0 < l.length) (hlm : l.map Ent.bare = m.map Ent.bare) (hle : l.length ≤ cap) (hm : cap ≤ maxLen) (hle2 : m.length ≤ cap2) (hm2 : cap2 ≤ maxLen) (hc : EntsAt w b off l) (hc2 : EntsAt w b2 off2 m)
    (hk : ∀ i, i < l.length → (ek l i).Ok maxLen w) (hk2 : ∀ i, i < m.length → (ek m i).Ok maxLen w) :
    Calls Tryd.prog 99 #[.slice (some ⟨b, off, none⟩) l.length cap, .slice (some ⟨b2, off2, none⟩) m.length cap2, .func (.func 100) #[] #[]] w fun e w' => e = .returned (.bool true) ∧ Below w.heap.size w w' := by
  have hl := bareE_len hlm
  unfold maxLen at hm hm2
  have HC := Lib.hid hc
  have HC2 := Lib.hid (fun i (hi : i < l.length) => hc2 i (by omega))
  have HK := Lib.hid hk
  have HK2 := Lib.hid (fun i (hi : i < l.length) => hk2 i (by omega))
  have HLM := Lib.hid (fun k (hk : k < l.length) => bareE_nk hlm hk)
  clear hc hc2 hk hk2 hlm
  rw [← hl] at hle2 ⊢
  clear hl
  generalize hn : l.length = n at *
  go_enter Tryd.func99, Tryd.ntmps99
  go_wp2
  go_loopw [7, 8, 9, 17] (fun _ _ _ i wr => ∃ k : Nat, k ≤ n ∧ i = .int .i64 k ∧ Hid (Below w.heap.size w wr)) (fun _ _ _ i _ => n - (intOf i).toNat)
  case atStart => exact ⟨0, by omega, rfl, Lib.hid (Below.refl _ _)⟩
  case round =>
    obtain ⟨k, hk, rfl, HB⟩ := hrel
    by_cases hlt : k < n
    · obtain ⟨h0, h1, h2, h3, h4, h5, h6, h7, h8, h9, h10⟩ := (HC.out.below HB.out) k (by omega)
      obtain ⟨g0, g1, g2, g3, g4, g5, g6, g7, g8, g9, g10⟩ := ((HC2.out k hlt).below HB.out).below ((Below.refl wr.heap.size wr).alloc (Nat.le_refl _) (boxE (ek l k)))
      have HS := Lib.hid (fun (w3 : World) (hb : Below wr.heap.size wr w3) => SameEnt_eq (ek l k) (ek m k) w3 (HLM.out k hlt) (((HK.out k hlt).below HB.out).below hb) (((HK2.out k hlt).below HB.out).below hb))
      generalize ek l k = x at *
      generalize ek m k = y at *
      go_wp2_with (go_at_call 100; have hbb := ((Below.refl wr.heap.size wr).alloc (Nat.le_refl _) (boxE x)).alloc (by simp) (boxE y); refine (HS.out _ hbb).mono ?_; rintro e w' ⟨rfl, hb2⟩; have HB2 := Lib.hid (HB.out.trans ((hbb.trans (hb2.mono hbb.size)).mono HB.out.size)); clear hb2 hbb)
      go_roundw
      case rel => exact ⟨k + 1, by omega, by go_num, HB2⟩
      case measure => simp [intOf]; omega
    · obtain rfl : k = n := by omega
      go_wp2
      go_ret
      exact ⟨rfl, HB.out⟩
set_option maxRecDepth 100000 in
theorem EqualEnts_nil (a a2 : Option Addr) (cap cap2 : Nat) (f : Value) (w : World) :
    Calls Tryd.prog 99 #[.slice a 0 cap, .slice a2 0 cap2, f] w fun e w' => e = .returned (.bool true) ∧ w = w' := by
  go_enter Tryd.func99, Tryd.ntmps99
  go_wp2
  go_loop [7, 8, 9, 17] (fun _ _ _ i => i = .int .i64 0) (fun _ _ _ i => 0)
  case atStart => rfl
  case round =>
    obtain rfl := hrel
    go_wp2
    go_ret
    exact ⟨rfl, rfl⟩
set_option maxRecDepth 100000 in
theorem SameEnts_eq (v u : Value) (l m : List Ent) (w : World) (hlm : l.map Ent.bare = m.map Ent.bare) (hv : SliceC maxLen 11 (EntC maxLen) w [v] l) (hu : SliceC maxLen 11 (EntC maxLen) w [u] m) :
    Calls Tryd.prog 52 #[v, u] w fun e w' => e = .returned (.bool true) ∧ Below w.heap.size w w' := by
  have hl := bareE_len hlm
  have HQ : Hid (Calls Tryd.prog 99 #[v, u, .func (.func 100) #[] #[]] w fun e w' => e = .returned (.bool true) ∧ Below w.heap.size w w') := Lib.hid (by
    rcases ents_cases hv with ⟨a, cap, rfl, rfl, _⟩ | ⟨b, off, cap, rfl, h1, h2, h3, h6, h4, h5⟩
    · rcases ents_cases hu with ⟨a2, cap2, rfl, rfl, _⟩ | ⟨b, off, cap, rfl, h1, h2, h3, h6, h4, h5⟩
      · refine (EqualEnts_nil a a2 cap cap2 _ w).mono ?_
        rintro e w' ⟨rfl, rfl⟩
        exact ⟨rfl, Below.refl _ _⟩
      · simp at hl; omega
    · rcases ents_cases hu with ⟨a2, cap2, rfl, rfl, _⟩ | ⟨b2, off2, cap2, rfl, g1, g2, g3, g6, g4, g5⟩
      · simp at hl; simp [hl] at h1
      · exact EqualEnts_at b off cap b2 off2 cap2 l m w h1 hlm h2 h3 g2 g3 h4 g4 h5 g5)
  clear hv hu hlm
  go_enter Tryd.func52, Tryd.ntmps52
  go_wp2_with fail
  refine HQ.out.mono ?_
  rintro e w1 ⟨rfl, hb⟩
  have HB := Lib.hid hb
  clear hb
  go_wp2
  go_ret
  exact ⟨rfl, HB.out⟩
end Go.Proofs.YtecmcgedeaemgaaDoor
/-
  plan.Make, walked.
-/
namespace Go.Creel
set_option linter.unusedVariables false
set_option linter.unusedSimpArgs false
open Go.RowKit
/-- a block that holds a member -/
def EntBox (t : TypeId) (w : World) (b : Nat) (x : Ent) : Prop := w.heap[b]? = some (.cells x.cells.toArray t (0, 0))
section
variable {t : TypeId} {w w' : World} {b : Nat} {x : Ent}
theorem EntBox.cells (h : EntBox t w b x) : EntAt w b 0 x := by
  have c : ∀ j, w.cell? ⟨b, j, none⟩ = x.cells[j]? := fun j => by rw [cell_of_row w b j _ t (0, 0) h]; simp
  exact ⟨c 0, c 1, c 2, c 3, c 4, c 5, c 6, c 7, c 8, c 9, c 10⟩
theorem EntBox.free (h : EntBox t w b x) (j : Nat) : w.frozen? ⟨b, j, none⟩ = false := frozen_of_row w b j _ t h
theorem EntBox.lt (h : EntBox t w b x) : b < w.heap.size := (Array.getElem?_eq_some_iff.1 h).1
theorem EntBox.below (h : EntBox t w b x) (hb : Below w.heap.size w w') : EntBox t w' b x := (hb.block b h.lt).trans h
theorem EntBox.put (h : EntBox t w b x) (j : Nat) (u : Value) (y : Ent) (hy : y.cells = x.cells.set j u) : EntBox t (w.setCell ⟨b, j, none⟩ u) b y := by
  unfold EntBox
  rw [heap_setCell_same w b j _ t _ h, hy]
  simp
theorem EntBox.other (h : EntBox t w b x) {k : Nat} (hk : b ≠ k) (j : Nat) (v : Value) : EntBox t (w.setCell ⟨k, j, none⟩ v) b x :=
  (heap_setCell_other w ⟨k, j, none⟩ b v hk).trans h
theorem EntBox.new (w : World) (x : Ent) : EntBox t (w.alloc (.cells #[.string x.path, .int .i64 x.kind, .string x.target, .int .i64 x.mt.mode, .int .i64 x.mt.uid, .int .i64 x.mt.gid, .string x.mt.user, .string x.mt.group, .int .i64 x.mt.second, .int .i64 x.mt.nano, .slice x.da x.data.length x.dcap] t)) w.heap.size x := heap_alloc_new w _
end
theorem entIn_arg {t : TypeId} {w W W' : World} {v : Value} {c : List Ent} {x : Ent} (hx : x.Ok maxLen w) (hb : Below w.heap.size w W) (hown : OwnEnts t W' w.heap.size v c) : EntIn W v x := by
  refine ⟨hx.below hb, fun a hp ha => ?_⟩
  have h3 := hx.lt a hp ha
  rcases hown.form with ⟨rfl, _⟩ | ⟨g, cap, rfl, hg, _⟩
  · simp [Value.ownBlock]
  · simp only [Value.ownBlock, ne_eq, Option.some.injEq]
    omega
theorem entOf_ok {w : World} {n : Nod} (h : n.Ok maxLen w) : (entOf n).Ok maxLen w := ⟨h.path, h.kind, h.target, h.mt, h.data⟩
theorem entLink_ok {w : World} {n : Nod} {p : ByteArray} (h : n.Ok maxLen w) (hp : p.size ≤ maxLen) : (entLink n p).Ok maxLen w :=
  ⟨h.path, by unfold i64; simp [entLink], hp, h.mt, ⟨none, 0, rfl, by simp [entLink], by simp, by simp [entLink], fun _ => rfl, fun h => absurd h (by simp [entLink])⟩⟩
end Go.Creel
namespace Go.Proofs.YtecmcgedeaemgaaDoor
set_option linter.unusedVariables false
set_option linter.unusedSimpArgs false
open Go.Creel Go.RowKit
theorem info_entry : (Tryd.prog.info? 116).map (fun i => (i.zero, i.size, i.bytes)) = some (some (.agg #[.string ⟨#[]⟩, .int .i64 0, .string ⟨#[]⟩, .int .i64 0, .int .i64 0, .int .i64 0, .string ⟨#[]⟩, .string ⟨#[]⟩, .int .i64 0, .int .i64 0, .slice none 0 0]), 11, 136) := by kernel_rfl
set_option maxRecDepth 100000 in
set_option maxHeartbeats 4000000 in
theorem MakeL_ok (v : Value) (l : List Nod) (rv : Value) (r : List Rul) (w : World) (hM : MaxOk w) (h : SliceC maxLen 12 (NodC maxLen) w [v] l) (hr : SliceC maxLen 2 (RulC maxLen) w [rv] r) (hE : (filtered l r).2 = 0) :
    Calls Tryd.prog 50 #[v, rv] w (RetLE 116 w (planned l r)) := by
  obtain ⟨i0, hi, hz0, hz1, hz2⟩ := info_parts info_entry
  have HI := Lib.hid (And.intro hi (And.intro hz0 (And.intro hz1 hz2)))
  have HM := Lib.hid hM
  have HRUN := Lib.hid (RunL_any v l rv r w hM h hr)
  have HF := Lib.hid (planned_ok hE)
  have HRT := Lib.hid (fun m hm => filtered_right (m := m) hE hm)
  have HFL := Lib.hid (filtered_len l r)
  generalize filtered l r = p at *
  obtain ⟨fl, fe⟩ := p
  simp only at hE
  subst hE
  clear hi hz0 hz1 hz2 hM h hr
  go_enter Tryd.func50, Tryd.ntmps50
  go_wp2_with fail
  refine HRUN.out.mono ?_
  rintro e w1 ⟨v1, m, rfl, ho, hbare, hb⟩
  have HB1 := Lib.hid hb
  have HO1 := Lib.hid ho
  have HBM := Lib.hid hbare
  have hT := HRT.out m hbare
  have hml : m.length ≤ 40 := (treeFault_all hT).1
  have HPS := Lib.hid (fun k (hk : k < m.length) => nodFault_size ((treeFault_all hT).2 k hk))
  have HLK := Lib.hid (fun (w : World) (hM : MaxOk w) (h : SliceC maxLen 12 (NodC maxLen) w [v1] m) => LinkL_any v1 m w hM h)
  rw [linkFirsts_ok hT] at HLK
  clear ho hb hbare hT
  go_wp2_with fail
  refine (HLK.out _ (HM.out.below HB1.out) (HO1.out.slice (by unfold maxLen; omega))).mono ?_
  rintro e w2 ⟨v2, rfl, ho, hb⟩
  have HB2 := Lib.hid (HB1.out.trans (hb.mono HB1.out.size))
  have HO2 := Lib.hid (HO1.out.below hb)
  have ho' : OwnIs 3 w2 w1.heap.size v2 (firstsL m m.length) := ho
  have HI2 := Lib.hid ho'
  clear ho hb ho'
  rcases HO2.out.form with ⟨rfl, e0⟩ | ⟨g, cap, rfl, hgB, hgw, hcap, hcm⟩
  · subst e0
    go_wp2
    go_loopw [9, 10, 11, 12, 29] (fun v9 _ _ _ i wr => v9 = .slice none 0 0 ∧ i = .int .i64 0 ∧ wr = w2) (fun _ _ _ _ _ _ => 0)
    case atStart => exact ⟨rfl, rfl, rfl⟩
    case round =>
      obtain ⟨rfl, rfl, hw⟩ := hrel
      rw [hw]
      go_wp2
      go_ret2
      rw [HF.out]
      exact ⟨_, [], rfl, OwnEnts.nil _ _ _, by rw [← planL_bare HBM.out]; rfl, HB2.out⟩
  · have hne : 0 < m.length ∨ m.length = 0 := by omega
    unfold maxLen at hcm
    have HIF := Lib.hid HI2.out.form
    have HL : Hid (∃ gi ci, v2 = .slice gi m.length ci ∧ m.length ≤ ci ∧ ci ≤ maxLen ∧ ∀ k, k < m.length → ∃ g2, gi = some ⟨g2, 0, none⟩ ∧ w2.cell? ⟨g2, k, none⟩ = some (.int .i64 (fstIdx m k : Int))) := Lib.hid (by
      rcases HIF.out with ⟨rfl, e0⟩ | ⟨g2, c2, rfl, _, _, q1, q2⟩
      · have : m.length = 0 := by rw [← firstsL_len m m.length, e0]; rfl
        exact ⟨none, 0, by rw [this], by omega, by unfold maxLen; omega, fun k hk => by omega⟩
      · rw [firstsL_len] at q1 ⊢
        refine ⟨some ⟨g2, 0, none⟩, c2, rfl, q1, q2, fun k hk => ⟨g2, rfl, ?_⟩⟩
        have hI := HI2.out
        rw [firstsL_len] at hI
        have := OwnIs.cell (l := firstsL m m.length) (by rw [firstsL_len]; exact hI) (j := k) (by rw [firstsL_len]; exact hk)
        rw [this]
        congr 2
        rw [pieceI_eq (by rw [firstsL_len]; exact hk)]
        simp [firstsL])
    obtain ⟨gi, ci, rfl, hci, hcim, hcell⟩ := HL.out
    unfold maxLen at hcim
    have HCI := Lib.hid hcell
    clear HL HIF hcell HI2 hne
    go_wp2
    go_loopw [9, 10, 11, 12, 29] (fun v9 _ _ _ i wr => ∃ (k : Nat) (vv : Value), k ≤ m.length ∧ i = .int .i64 k ∧ vv = v9 ∧ Hid (OwnEnts 116 wr w2.heap.size vv (planL m k)) ∧ Hid (Below w2.heap.size w2 wr)) (fun _ _ _ _ i _ => m.length - (intOf i).toNat)
    case atStart => exact ⟨0, _, by omega, rfl, rfl, Lib.hid (OwnEnts.nil _ _ _), Lib.hid (Below.refl _ _)⟩
    case round =>
      obtain ⟨k, vv, hk, rfl, rfl, HOW, HB⟩ := hrel
      by_cases hlt : k < m.length
      · have HNOD := Lib.hid (fun q (hq : q < m.length) => (HO2.out.nodAt hq).below HB.out)
        obtain ⟨h0, h1, h2, h3, h4, h5, h6, h7, h8, h9, h10, h11⟩ := HNOD.out k hlt
        obtain ⟨g2, rfl, hc2⟩ := HCI.out k hlt
        have hc2r : wr.cell? ⟨g2, k, none⟩ = some (.int .i64 (fstIdx m k : Int)) := (HB.out.cell (p := ⟨g2, k, none⟩) (World.block_lt_of_cell? w2 _ hc2)).trans hc2
        have hfl := fstIdx_le m k
        have HOKX := Lib.hid (HO2.out.nodIn hlt).1
        have hpl := planL_len m k
        have HSU := Lib.hid (planL_succ m k)
        have HNF := Lib.hid (fun (hf : fstIdx m k < k) => HNOD.out (fstIdx m k) (by omega))
        have HPF := Lib.hid (fun (hf : fstIdx m k < k) => HPS.out (fstIdx m k) (by omega))
        have HLE := Lib.hid (fun (hf : fstIdx m k < k) => planE_link hf)
        have HOE := Lib.hid (fun (hf : ¬ fstIdx m k < k) => planE_own hf)
        generalize nk m k = x at *
        generalize planE m k = pe at *
        generalize nk m (fstIdx m k) = xf at *
        generalize fstIdx m k = f at *
        generalize hcc : planL m k = c at *
        clear hcc
        have HW := Lib.hid (show EntBox 116 ((wr.alloc (.cells #[.string x.path, .int .i64 x.kind, .int .i64 x.same, .string x.target, .int .i64 x.mt.mode, .int .i64 x.mt.uid, .int .i64 x.mt.gid, .string x.mt.user, .string x.mt.group, .int .i64 x.mt.second, .int .i64 x.mt.nano, .slice x.da x.data.length x.dcap] 48)).alloc (.cells #[.string x.path, .int .i64 x.kind, .string x.target, .int .i64 x.mt.mode, .int .i64 x.mt.uid, .int .i64 x.mt.gid, .string x.mt.user, .string x.mt.group, .int .i64 x.mt.second, .int .i64 x.mt.nano, .slice x.da x.data.length x.dcap] 116)) (wr.heap.size + 1) (entOf x) ∧ Below wr.heap.size wr ((wr.alloc (.cells #[.string x.path, .int .i64 x.kind, .int .i64 x.same, .string x.target, .int .i64 x.mt.mode, .int .i64 x.mt.uid, .int .i64 x.mt.gid, .string x.mt.user, .string x.mt.group, .int .i64 x.mt.second, .int .i64 x.mt.nano, .slice x.da x.data.length x.dcap] 48)).alloc (.cells #[.string x.path, .int .i64 x.kind, .string x.target, .int .i64 x.mt.mode, .int .i64 x.mt.uid, .int .i64 x.mt.gid, .string x.mt.user, .string x.mt.group, .int .i64 x.mt.second, .int .i64 x.mt.nano, .slice x.da x.data.length x.dcap] 116)) from
          ⟨by have := EntBox.new (t := 116) (wr.alloc (.cells #[.string x.path, .int .i64 x.kind, .int .i64 x.same, .string x.target, .int .i64 x.mt.mode, .int .i64 x.mt.uid, .int .i64 x.mt.gid, .string x.mt.user, .string x.mt.group, .int .i64 x.mt.second, .int .i64 x.mt.nano, .slice x.da x.data.length x.dcap] 48)) (entOf x); simpa [entOf] using this, ((Below.refl wr.heap.size wr).alloc (Nat.le_refl _) _).alloc (by simp) _⟩)
        go_upto_region 10 with fail
        generalize World.alloc (World.alloc wr _) _ = W at *
        have HEB := Lib.hid HW.out.1
        have HBW := Lib.hid HW.out.2
        have hcw := (HBW.out.cell (p := ⟨g2, k, none⟩) (World.block_lt_of_cell? wr _ hc2r)).trans hc2r
        have HB2W := Lib.hid (HB.out.trans (HBW.out.mono HB.out.size))
        have hgb : g2 ≠ wr.heap.size + 1 := by have := World.block_lt_of_cell? wr _ hc2r; simp at this; omega
        have hgb' : g ≠ wr.heap.size + 1 := by have := World.block_lt_of_cell? wr _ h0; simp at this; omega
        clear HW hc2 hc2r h0 h1 h2 h3 h4 h5 h6 h7 h8 h9 h10 h11
        by_cases hf : f < k
        · have HPE := Lib.hid (HLE.out hf)
          have hd : decide ((f : Int) < (k : Int)) = true := by simpa using hf
          obtain ⟨n0, _⟩ := (HNF.out hf).below HBW.out
          have hps := HPF.out hf
          obtain ⟨c0, c1, c2, c3, c4, c5, c6, c7, c8, c9, c10⟩ := HEB.out.cells
          have z1 := HEB.out.free 1
          have z2 := HEB.out.free 2
          have z10 := HEB.out.free 10
          have hfm : f < m.length := by omega
          go_upto_region 11 with fail
          go_cut [] from 51 to 61 (fun wc => Hid (EntBox 116 wc (wr.heap.size + 1) (entLink x xf.path)) ∧ Hid (Below wr.heap.size wr wc))
          case first =>
            have HE3 := Lib.hid (((HEB.out.put 1 (.int .i64 4) ⟨x.path, 4, x.target, x.mt, x.da, x.dcap, x.data⟩ rfl).put 2 (.string xf.path) ⟨x.path, 4, xf.path, x.mt, x.da, x.dcap, x.data⟩ rfl).put 10 (.slice none 0 0) (entLink x xf.path) rfl)
            have HB3 := Lib.hid (((HBW.out.setCell (p := ⟨wr.heap.size + 1, 1, none⟩) (by simp) (.int .i64 4)).setCell (p := ⟨wr.heap.size + 1, 2, none⟩) (by simp) (.string xf.path)).setCell (p := ⟨wr.heap.size + 1, 10, none⟩) (by simp) (.slice none 0 0))
            go_region
            go_wp2
            go_meet
            exact ⟨Lib.hid HE3.out, Lib.hid HB3.out.drew⟩
          case rest =>
            obtain ⟨HE3, HB3⟩ := hcut
            obtain ⟨e0, e1, e2, e3, e4, e5, e6, e7, e8, e9, e10⟩ := HE3.out.cells
            clear c0 c1 c2 c3 c4 c5 c6 c7 c8 c9 c10 z1 z2 z10 n0
            have HBC := Lib.hid (HB.out.trans (HB3.out.mono HB.out.size))
            have HXO := Lib.hid (entLink_ok (p := xf.path) HOKX.out (Nat.le_trans hps (by unfold maxLen; omega)))
            have HA := Lib.hid (HBC.out.alloc HBC.out.size (boxE (entLink x xf.path)))
            have HO3 := Lib.hid (HOW.out.below ((HB3.out.alloc HB3.out.size (boxE (entLink x xf.path)))))
            have HBA := HA
            have HN3 := Lib.hid (entIn_arg (HXO.out) HA.out HOW.out)
            go_wp2_with (at_builtin; refine wpList_app _ rfl (.tmp 62) (.tmp 64) 67 67 rfl _ _ rfl rfl (fun ty => app_src _ 67 67 ty w2.heap.size 116 i0 _ 11 136 Tryd.underlying67 HI.out.1 HI.out.2.1 HI.out.2.2.1 HI.out.2.2.2 rfl (by decide) _ _ c.length 1 _ _ HO3.out.1 (src_ent wc _ _ _ Tryd.underlying67 (entLink x xf.path)) (by unfold maxLen; omega) (by omega) HBA.out.size) ?_; intro v3 w5 ho2 hg2 hv2; have HZ := Lib.hid (And.intro ho2 (And.intro hg2 hv2.2)); clear ho2 hg2 hv2)
            have HO4 := Lib.hid (HO3.out.app (m := [entLink x xf.path]) (fun y hy => by rw [List.mem_singleton.1 hy]; exact HN3.out) HZ.out.1 HZ.out.2.1 HZ.out.2.2)
            have HB4 := Lib.hid (below_app HBA.out HZ.out.2.1 HO3.out.1 HBA.out.size)
            go_wp2
            go_roundw
            case rel => exact ⟨k + 1, _, by omega, by go_num, rfl, Lib.hid (by rw [HSU.out, HPE.out]; exact HO4.out), HB4⟩
            case measure => simp [intOf]; omega
        · have HPE := Lib.hid (HOE.out hf)
          have hff : ((f : Nat) : Int) = (k : Int) := by omega
          rw [hff] at hcw
          obtain ⟨c0, c1, c2, c3, c4, c5, c6, c7, c8, c9, c10⟩ := HEB.out.cells
          have HXO := Lib.hid (entOf_ok HOKX.out)
          have HA := Lib.hid (HB2W.out.alloc HB2W.out.size (boxE (entOf x)))
          have HO3 := Lib.hid (HOW.out.below ((HBW.out.alloc HBW.out.size (boxE (entOf x)))))
          have HBA := HA
          have HN3 := Lib.hid (entIn_arg (HXO.out) HA.out HOW.out)
          go_wp2_with (at_builtin; refine wpList_app _ rfl (.tmp 62) (.tmp 64) 67 67 rfl _ _ rfl rfl (fun ty => app_src _ 67 67 ty w2.heap.size 116 i0 _ 11 136 Tryd.underlying67 HI.out.1 HI.out.2.1 HI.out.2.2.1 HI.out.2.2.2 rfl (by decide) _ _ c.length 1 _ _ HO3.out.1 (src_ent W _ _ _ Tryd.underlying67 (entOf x)) (by unfold maxLen; omega) (by omega) HBA.out.size) ?_; intro v3 w5 ho2 hg2 hv2; have HZ := Lib.hid (And.intro ho2 (And.intro hg2 hv2.2)); clear ho2 hg2 hv2)
          have HO4 := Lib.hid (HO3.out.app (m := [entOf x]) (fun y hy => by rw [List.mem_singleton.1 hy]; exact HN3.out) HZ.out.1 HZ.out.2.1 HZ.out.2.2)
          have HB4 := Lib.hid (below_app HBA.out HZ.out.2.1 HO3.out.1 HBA.out.size)
          go_wp2
          go_roundw
          case rel => exact ⟨k + 1, _, by omega, by go_num, rfl, Lib.hid (by rw [HSU.out, HPE.out]; exact HO4.out), HB4⟩
          case measure => simp [intOf]; omega
      · obtain rfl : k = m.length := by omega
        go_wp2
        go_ret2
        rw [HF.out]
        exact ⟨_, _, rfl, (HOW.out.below (Below.refl _ _)).mono HB2.out.size, planL_bare HBM.out, HB2.out.trans (HB.out.mono HB2.out.size)⟩
set_option maxRecDepth 100000 in
set_option maxHeartbeats 1000000 in
theorem MakeL_bad (v : Value) (l : List Nod) (rv : Value) (r : List Rul) (w : World) (hM : MaxOk w) (h : SliceC maxLen 12 (NodC maxLen) w [v] l) (hr : SliceC maxLen 2 (RulC maxLen) w [rv] r) (hE : ¬ (filtered l r).2 = 0) :
    Calls Tryd.prog 50 #[v, rv] w (RetLE 116 w (planned l r)) := by
  have HRUN := Lib.hid (RunL_any v l rv r w hM h hr)
  have HF := Lib.hid (planned_bad hE)
  generalize filtered l r = p at *
  obtain ⟨fl, fe⟩ := p
  simp only at hE
  have hq : (fe == 0) = false := by rw [beq_eq_false_iff_ne]; exact hE
  clear h hr hE
  go_enter Tryd.func50, Tryd.ntmps50
  go_wp2_with fail
  refine HRUN.out.mono ?_
  rintro e w1 ⟨v1, m, rfl, ho, hbare, hb⟩
  have HB1 := Lib.hid hb
  clear ho hb hbare
  go_wp2
  go_ret2
  rw [HF.out]
  exact ⟨_, [], rfl, OwnEnts.nil _ _ _, rfl, HB1.out⟩
theorem MakeL_any (v : Value) (l : List Nod) (rv : Value) (r : List Rul) (w : World) (hM : MaxOk w) (h : SliceC maxLen 12 (NodC maxLen) w [v] l) (hr : SliceC maxLen 2 (RulC maxLen) w [rv] r) :
    Calls Tryd.prog 50 #[v, rv] w (RetLE 116 w (planned l r)) := by
  by_cases hE : (filtered l r).2 = 0
  · exact MakeL_ok v l rv r w hM h hr hE
  · exact MakeL_bad v l rv r w hM h hr hE
end Go.Proofs.YtecmcgedeaemgaaDoor
/-
  creelref.Planned, walked.
-/
namespace Go.Creel
theorem nodFault_same {x : Nod} (h : nodFault x = 0) : 0 ≤ x.same := by
  unfold nodFault nodFaultN at h
  split at h
  · rename_i h1; exact absurd h h1
  · split at h
    · rename_i h1; exact absurd h h1
    · split at h
      · split at h
        · cases h
        · rename_i h1; omega
      · split at h
        · split at h
          · cases h
          · rename_i h1; omega
        · cases h
theorem NodAt.other {w : World} {b o : Nat} {x : Nod} (h : NodAt w b o x) {k : Nat} (hk : b ≠ k) (j : Nat) (v : Value) : NodAt (w.setCell ⟨k, j, none⟩ v) b o x := by
  have c : ∀ i u, w.cell? ⟨b, i, none⟩ = some u → (w.setCell ⟨k, j, none⟩ v).cell? ⟨b, i, none⟩ = some u := fun i u hu => by
    rw [World.cell?_setCell_other _ _ _ _ (fun e => hk (congrArg Addr.block e).symm)]; exact hu
  obtain ⟨h0, h1, h2, h3, h4, h5, h6, h7, h8, h9, h10, h11⟩ := h
  exact ⟨c _ _ h0, c _ _ h1, c _ _ h2, c _ _ h3, c _ _ h4, c _ _ h5, c _ _ h6, c _ _ h7, c _ _ h8, c _ _ h9, c _ _ h10, c _ _ h11⟩
theorem LinkDown.keeps {l : List Nod} {i j : Nat} {x : Ent} (h : LinkDown l i j x) : x.path = (nk l i).path ∧ x.mt = (nk l i).mt := by
  rcases h.2 with ⟨rfl, _⟩ | ⟨k, _, _, _, _, rfl⟩ <;> exact ⟨rfl, rfl⟩
theorem EntBox.toLink {t : TypeId} {w : World} {b : Nat} {x : Nod} {xe : Ent} (h : EntBox t w b xe) (hk : xe.path = x.path ∧ xe.mt = x.mt) (n : Nat) (p : ByteArray) :
    EntBox t ((((w.drewN n).setCell ⟨b, 1, none⟩ (.int .i64 4)).setCell ⟨b, 2, none⟩ (.string p)).setCell ⟨b, 10, none⟩ (.slice none 0 0)) b (entLink x p) := by
  have h0 : EntBox t (w.drewN n) b xe := h.below (below_draws _ _ _)
  have e : entLink x p = ⟨xe.path, 4, p, xe.mt, none, 0, []⟩ := by unfold entLink; rw [hk.1, hk.2]
  rw [e]
  exact ((h0.put 1 (.int .i64 4) ⟨xe.path, 4, xe.target, xe.mt, xe.da, xe.dcap, xe.data⟩ rfl).put 2 (.string p) ⟨xe.path, 4, p, xe.mt, xe.da, xe.dcap, xe.data⟩ rfl).put 10 (.slice none 0 0) _ rfl
end Go.Creel
namespace Go.Proofs.YtecmcgedeaemgaaDoor
set_option linter.unusedVariables false
set_option linter.unusedSimpArgs false
open Go.Creel Go.RowKit
set_option maxRecDepth 100000 in
set_option maxHeartbeats 4000000 in
theorem MakeR_ok (v : Value) (l : List Nod) (rv : Value) (r : List Rul) (w : World) (h : SliceC maxLen 12 (NodC maxLen) w [v] l) (hr : SliceC maxLen 2 (RulC maxLen) w [rv] r) (hE : (filtered l r).2 = 0) :
    Calls Tryd.prog 51 #[v, rv] w (RetLE 116 w (planned l r)) := by
  obtain ⟨i0, hi, hz0, hz1, hz2⟩ := info_parts info_entry
  have HI := Lib.hid (And.intro hi (And.intro hz0 (And.intro hz1 hz2)))
  have HRUN := Lib.hid (RunR_any v l rv r w h hr)
  have HF := Lib.hid (planned_ok hE)
  have HRT := Lib.hid (fun m hm => filtered_right (m := m) hE hm)
  generalize filtered l r = p at *
  obtain ⟨fl, fe⟩ := p
  simp only at hE
  subst hE
  clear hi hz0 hz1 hz2 h hr
  go_enter Tryd.func51, Tryd.ntmps51
  go_wp2_with fail
  refine HRUN.out.mono ?_
  rintro e w2 ⟨v1, m, rfl, ho, hbare, hb⟩
  have HB2 := Lib.hid hb
  have HO2 := Lib.hid ho
  have HBM := Lib.hid hbare
  have hT := HRT.out m hbare
  have hml : m.length ≤ 40 := (treeFault_all hT).1
  have HPS := Lib.hid (fun k (hk : k < m.length) => nodFault_size ((treeFault_all hT).2 k hk))
  have HSA := Lib.hid (fun k (hk : k < m.length) => nodFault_same ((treeFault_all hT).2 k hk))
  clear ho hb hbare hT
  rcases HO2.out.form with ⟨rfl, e0⟩ | ⟨g, cap, rfl, hgB, hgw, hcap, hcm⟩
  · subst e0
    go_wp2
    go_loopw [7, 8, 9, 10, 11, 23] (fun v7 _ _ _ _ i wr => v7 = .slice none 0 0 ∧ i = .int .i64 0 ∧ wr = w2) (fun _ _ _ _ _ _ _ => 0)
    case atStart => exact ⟨rfl, rfl, rfl⟩
    case round =>
      obtain ⟨rfl, rfl, hw⟩ := hrel
      rw [hw]
      go_wp2
      go_ret2
      rw [HF.out]
      exact ⟨_, [], rfl, OwnEnts.nil _ _ _, by rw [← planL_bare HBM.out]; rfl, HB2.out⟩
  · unfold maxLen at hcm
    go_wp2
    go_loopw [7, 8, 9, 10, 11, 23] (fun v7 _ _ _ _ i wr => ∃ (k : Nat) (vv : Value), k ≤ m.length ∧ i = .int .i64 k ∧ vv = v7 ∧ Hid (OwnEnts 116 wr w2.heap.size vv (planL m k)) ∧ Hid (Below w2.heap.size w2 wr)) (fun _ _ _ _ _ i _ => m.length - (intOf i).toNat)
    case atStart => exact ⟨0, _, by omega, rfl, rfl, Lib.hid (OwnEnts.nil _ _ _), Lib.hid (Below.refl _ _)⟩
    case round =>
      obtain ⟨k, vv, hk, rfl, rfl, HOW, HB⟩ := hrel
      by_cases hlt : k < m.length
      · have HNOD := Lib.hid (fun q (hq : q < m.length) => (HO2.out.nodAt hq).below HB.out)
        obtain ⟨h0, h1, h2, h3, h4, h5, h6, h7, h8, h9, h10, h11⟩ := HNOD.out k hlt
        have HOKX := Lib.hid (HO2.out.nodIn hlt).1
        have hpl := planL_len m k
        have HSU := Lib.hid (planL_succ m k)
        have HDONE := Lib.hid (fun x hx => LinkDown.done (l := m) (i := k) (x := x) (HSA.out k hlt) hx)
        have HST := Lib.hid (LinkDown.start m k)
        have HNO := Lib.hid (fun j x hx => LinkDown.no (l := m) (i := k) (j := j) (x := x) hx)
        have HKEEP := Lib.hid (fun j x hx => LinkDown.keeps (l := m) (i := k) (j := j) (x := x) hx)
        have HYES := Lib.hid (fun j x hx => LinkDown.yes (l := m) (i := k) (j := j) (x := x) hx)
        generalize nk m k = x at *
        generalize hcc : planL m k = c at *
        clear hcc
        have HW := Lib.hid (show EntBox 116 ((wr.alloc (.cells #[.string x.path, .int .i64 x.kind, .int .i64 x.same, .string x.target, .int .i64 x.mt.mode, .int .i64 x.mt.uid, .int .i64 x.mt.gid, .string x.mt.user, .string x.mt.group, .int .i64 x.mt.second, .int .i64 x.mt.nano, .slice x.da x.data.length x.dcap] 48)).alloc (.cells #[.string x.path, .int .i64 x.kind, .string x.target, .int .i64 x.mt.mode, .int .i64 x.mt.uid, .int .i64 x.mt.gid, .string x.mt.user, .string x.mt.group, .int .i64 x.mt.second, .int .i64 x.mt.nano, .slice x.da x.data.length x.dcap] 116)) (wr.heap.size + 1) (entOf x) ∧ NodAt ((wr.alloc (.cells #[.string x.path, .int .i64 x.kind, .int .i64 x.same, .string x.target, .int .i64 x.mt.mode, .int .i64 x.mt.uid, .int .i64 x.mt.gid, .string x.mt.user, .string x.mt.group, .int .i64 x.mt.second, .int .i64 x.mt.nano, .slice x.da x.data.length x.dcap] 48)).alloc (.cells #[.string x.path, .int .i64 x.kind, .string x.target, .int .i64 x.mt.mode, .int .i64 x.mt.uid, .int .i64 x.mt.gid, .string x.mt.user, .string x.mt.group, .int .i64 x.mt.second, .int .i64 x.mt.nano, .slice x.da x.data.length x.dcap] 116)) wr.heap.size 0 x ∧ Below wr.heap.size wr ((wr.alloc (.cells #[.string x.path, .int .i64 x.kind, .int .i64 x.same, .string x.target, .int .i64 x.mt.mode, .int .i64 x.mt.uid, .int .i64 x.mt.gid, .string x.mt.user, .string x.mt.group, .int .i64 x.mt.second, .int .i64 x.mt.nano, .slice x.da x.data.length x.dcap] 48)).alloc (.cells #[.string x.path, .int .i64 x.kind, .string x.target, .int .i64 x.mt.mode, .int .i64 x.mt.uid, .int .i64 x.mt.gid, .string x.mt.user, .string x.mt.group, .int .i64 x.mt.second, .int .i64 x.mt.nano, .slice x.da x.data.length x.dcap] 116)) from
          ⟨by have := EntBox.new (t := 116) (wr.alloc (.cells #[.string x.path, .int .i64 x.kind, .int .i64 x.same, .string x.target, .int .i64 x.mt.mode, .int .i64 x.mt.uid, .int .i64 x.mt.gid, .string x.mt.user, .string x.mt.group, .int .i64 x.mt.second, .int .i64 x.mt.nano, .slice x.da x.data.length x.dcap] 48)) (entOf x); simpa [entOf] using this, (nodAt_box wr x 48).below ((Below.refl _ _).alloc (Nat.le_refl _) _), ((Below.refl wr.heap.size wr).alloc (Nat.le_refl _) _).alloc (by simp) _⟩)
        have HGW := Lib.hid (World.block_lt_of_cell? wr _ h0)
        obtain ⟨wo, rfl⟩ : ∃ wo : World, wo = wr := ⟨_, rfl⟩
        have HPK := Lib.hid (HPS.out k hlt)
        go_upto_block 2 with fail
        generalize World.alloc (World.alloc wo _) _ = W at *
        have HEB := Lib.hid HW.out.1
        have HNB := Lib.hid HW.out.2.1
        have HBW := Lib.hid HW.out.2.2
        clear HW h0 h1 h2 h3 h4 h5 h6 h7 h8 h9 h10 h11
        go_wp2
        go_loopw [11] (fun v11 w5 => ∃ (j : Nat) (xe : Ent), v11 = .int .i64 ((j : Int) - 1) ∧ j ≤ k ∧ Hid (EntBox 116 w5 (wo.heap.size + 1) xe) ∧ Hid (LinkDown m k j xe) ∧ Hid (xe.Ok maxLen w2) ∧ Hid (NodAt w5 wo.heap.size 0 x) ∧ Hid (Below wo.heap.size wo w5)) (fun v11 _ => ((intOf v11) + 1).toNat)
        case atStart => exact ⟨k, _, rfl, Nat.le_refl _, HEB, HST, Lib.hid (entOf_ok HOKX.out), HNB, HBW⟩
        case round =>
          obtain ⟨j, xe, rfl, hj, HE5, HLD, HXO, HN5, HB5⟩ := hrel
          clear HEB HNB HBW HST
          have HB25 := Lib.hid (HB.out.trans (HB5.out.mono HB.out.size))
          cases j with
          | zero =>
            have HPE := Lib.hid (HDONE.out _ HLD.out)
            rw [show ((0 : Nat) : Int) - 1 = -1 by rfl]
            obtain ⟨c0, c1, c2, c3, c4, c5, c6, c7, c8, c9, c10⟩ := HE5.out.cells
            have HA := Lib.hid (HB25.out.alloc HB25.out.size (boxE xe))
            have HO3 := Lib.hid (HOW.out.below ((HB5.out.alloc HB5.out.size (boxE xe))))
            have HN3 := Lib.hid (entIn_arg (HXO.out) HA.out HOW.out)
            go_wp2_with (at_builtin; refine wpList_app _ rfl (.tmp 66) (.tmp 68) 67 67 rfl _ _ rfl rfl (fun ty => app_src _ 67 67 ty w2.heap.size 116 i0 _ 11 136 Tryd.underlying67 HI.out.1 HI.out.2.1 HI.out.2.2.1 HI.out.2.2.2 rfl (by decide) _ _ c.length 1 _ _ HO3.out.1 (src_ent wr _ _ _ Tryd.underlying67 xe) (by unfold maxLen; omega) (by omega) HA.out.size) ?_; intro v3 w5 ho2 hg2 hv2; have HZ := Lib.hid (And.intro ho2 (And.intro hg2 hv2.2)); clear ho2 hg2 hv2)
            have HO4 := Lib.hid (HO3.out.app (m := [xe]) (fun y hy => by rw [List.mem_singleton.1 hy]; exact HN3.out) HZ.out.1 HZ.out.2.1 HZ.out.2.2)
            have HB4 := Lib.hid (below_app HA.out HZ.out.2.1 HO3.out.1 HA.out.size)
            go_wp2
            go_roundw
            case rel => exact ⟨k + 1, _, by omega, by go_num, rfl, Lib.hid (by rw [HSU.out, ← HPE.out]; exact HO4.out), HB4⟩
            case measure => simp [intOf]; omega
          | succ q =>
            rw [show (((q + 1 : Nat)) : Int) - 1 = (q : Int) by omega]
            have hqm : q < m.length := by omega
            obtain ⟨n0, n1, n2, _⟩ := (HNOD.out q hqm).below HB5.out
            obtain ⟨d0, d1, d2, _⟩ := HN5.out.zero
            have HNQ := Lib.hid (HNO.out q xe HLD.out)
            have HYQ := Lib.hid (HYES.out q xe HLD.out)
            have HPQ := Lib.hid (HPS.out q hqm)
            generalize nk m q = xf at *
            have hql : (q : Int) < (m.length : Int) := by omega
            by_cases hs : 0 < x.same
            · have hd : decide (0 < x.same) = true := decide_eq_true hs
              by_cases he : xf.same = x.same
              · have hb2 : (xf.same == x.same) = true := by rw [beq_iff_eq]; exact he
                have HL := Lib.hid (HYQ.out ⟨hs, he⟩)
                have z1 := HE5.out.free 1
                have z2 := HE5.out.free 2
                have z10 := HE5.out.free 10
                obtain ⟨c0, c1, c2, c3, c4, c5, c6, c7, c8, c9, c10⟩ := HE5.out.cells
                have hgb : g ≠ wo.heap.size + 1 := by have h1 : g < wo.heap.size := HGW.out; omega
                have HKP := Lib.hid (HKEEP.out _ _ HLD.out)
                clear HLD
                clear hs he
                go_wp2
                go_quiet (fail)
                go_wp2
                go_roundw
                case rel =>
                  refine ⟨q, entLink x xf.path, rfl, by omega, Lib.hid ?_, HL, Lib.hid (entLink_ok HOKX.out (Nat.le_trans HPQ.out (by unfold maxLen; omega))), Lib.hid ?_, Lib.hid ?_⟩
                  · exact HE5.out.toLink HKP.out _ _
                  · exact (((HN5.out.below (below_draws _ _ _)).other (by omega) _ _).other (by omega) _ _).other (by omega) _ _
                  · exact (((HB5.out.trans (below_draws _ _ _)).setCell (p := ⟨wo.heap.size + 1, 1, none⟩) (by simp) _).setCell (p := ⟨wo.heap.size + 1, 2, none⟩) (by simp) _).setCell (p := ⟨wo.heap.size + 1, 10, none⟩) (by simp) _
                case measure => simp [intOf]
              · have hb2 : (xf.same == x.same) = false := by rw [beq_eq_false_iff_ne]; exact he
                have HL := Lib.hid (HNQ.out (fun h => he h.2))
                clear hs he
                go_wp2
                go_quiet (fail)
                go_wp2
                go_roundw
                case rel => exact ⟨q, xe, rfl, by omega, HE5, HL, HXO, HN5, Lib.hid (HB5.out.trans (below_draws _ _ _))⟩
                case measure => simp [intOf]
            · have hd : decide (0 < x.same) = false := decide_eq_false hs
              have HL := Lib.hid (HNQ.out (fun h => hs h.1))
              clear hs
              go_wp2
              go_quiet (fail)
              go_wp2
              go_roundw
              case rel => exact ⟨q, xe, rfl, by omega, HE5, HL, HXO, HN5, Lib.hid (HB5.out.trans (below_draws _ _ _))⟩
              case measure => simp [intOf]
      · obtain rfl : k = m.length := by omega
        go_wp2
        go_ret2
        rw [HF.out]
        exact ⟨_, _, rfl, (HOW.out.below (Below.refl _ _)).mono HB2.out.size, planL_bare HBM.out, HB2.out.trans (HB.out.mono HB2.out.size)⟩
set_option maxRecDepth 100000 in
set_option maxHeartbeats 1000000 in
theorem MakeR_bad (v : Value) (l : List Nod) (rv : Value) (r : List Rul) (w : World) (h : SliceC maxLen 12 (NodC maxLen) w [v] l) (hr : SliceC maxLen 2 (RulC maxLen) w [rv] r) (hE : ¬ (filtered l r).2 = 0) :
    Calls Tryd.prog 51 #[v, rv] w (RetLE 116 w (planned l r)) := by
  have HRUN := Lib.hid (RunR_any v l rv r w h hr)
  have HF := Lib.hid (planned_bad hE)
  generalize filtered l r = p at *
  obtain ⟨fl, fe⟩ := p
  simp only at hE
  have hq : (fe == 0) = false := by rw [beq_eq_false_iff_ne]; exact hE
  clear h hr hE
  go_enter Tryd.func51, Tryd.ntmps51
  go_wp2_with fail
  refine HRUN.out.mono ?_
  rintro e w1 ⟨v1, m, rfl, ho, hbare, hb⟩
  have HB1 := Lib.hid hb
  clear ho hb hbare
  go_wp2
  go_ret2
  rw [HF.out]
  exact ⟨_, [], rfl, OwnEnts.nil _ _ _, rfl, HB1.out⟩
theorem MakeR_any (v : Value) (l : List Nod) (rv : Value) (r : List Rul) (w : World) (h : SliceC maxLen 12 (NodC maxLen) w [v] l) (hr : SliceC maxLen 2 (RulC maxLen) w [rv] r) :
    Calls Tryd.prog 51 #[v, rv] w (RetLE 116 w (planned l r)) := by
  by_cases hE : (filtered l r).2 = 0
  · exact MakeR_ok v l rv r w h hr hE
  · exact MakeR_bad v l rv r w h hr hE
end Go.Proofs.YtecmcgedeaemgaaDoor
/-
  The world at a law's call holds the library's bound on the lengths that it looks for.
-/
namespace Go.Proofs.YtecmcgedeaemgaaDoor
set_option linter.unusedVariables false
open Go.Creel Go.RowKit
theorem maxOk_of (w : World) (h : w.ShapedOpen Tryd.prog) : MaxOk w := by
  have hc : ∃ m, w.cell? ⟨0, 0, none⟩ = some (.int .i64 m) :=
    Go.Proofs.cell_of_shapedOpen_int (zero := #[.int .i64 0]) (t := 3) h (of_decide_eq_true (by kernel_rfl)) (by kernel_rfl) rfl (by kernel_rfl) (by kernel_rfl) Tryd.underlying3
  refine ⟨?_, hc⟩
  obtain ⟨m, hm⟩ := hc
  rcases Nat.eq_zero_or_pos w.heap.size with h0 | h0
  · unfold World.cell? at hm
    rw [Array.getElem?_eq_none (by omega)] at hm
    simp at hm
  · exact h0
end Go.Proofs.YtecmcgedeaemgaaDoor
/-
  A world that holds the library's tables, for the witness of a row that lists them.
-/
namespace Go.Creel
/-- a datum of numbers, arrays and structs of these, as cells -/
def dcells : Nat → DataW Unit → List Value
  | 0, _ => []
  | _ + 1, .lit (.int k n) => [.int k n]
  | m + 1, .agg ps => ps.flatMap (dcells m)
  | _ + 1, _ => []
/-- the world with these variables laid -/
def layAll (w : World) (l : List (Nat × DataW Unit)) : World :=
  { w with heap := l.foldl (fun h x => h.modify x.1 fun
    | .cells _ t fr => .cells (dcells 4 x.2).toArray t fr
    | o => o) w.heap }
end Go.Creel
/-
  The law PlanMakes, walked.
-/
namespace Go.Proofs.YtecmcgedeaemgaaDoor
set_option linter.unusedVariables false
open Go.Creel Go.RowKit
set_option maxRecDepth 100000 in
set_option maxHeartbeats 1000000 in
theorem planMakes_walk (w : World) (v : Value) (l : List Nod) (h : SliceC maxLen 12 (NodC maxLen) w [v] l) (rv : Value) (r : List Rul) (hr : SliceC maxLen 2 (RulC maxLen) w [rv] r) (hsh : w.ShapedOpen Tryd.prog) (_hL : laidMetH Tryd.prog Rows.planMakesRow.laid w) :
    Calls Tryd.prog 14 #[v, rv] w fun e w' => e = .returned (.bool true) ∧ Below w.heap.size w w' := by
  have HM := Lib.hid (maxOk_of w hsh)
  have H := Lib.hid h
  have HRR := Lib.hid hr
  have HL1 := Lib.hid (planned_len l r)
  have HA := Lib.hid (fun (w : World) (hM : MaxOk w) (h : SliceC maxLen 12 (NodC maxLen) w [v] l) (hr : SliceC maxLen 2 (RulC maxLen) w [rv] r) => MakeL_any v l rv r w hM h hr)
  have HC := Lib.hid (fun (w : World) (h : SliceC maxLen 12 (NodC maxLen) w [v] l) (hr : SliceC maxLen 2 (RulC maxLen) w [rv] r) => MakeR_any v l rv r w h hr)
  generalize planned l r = p at *
  obtain ⟨fl, fe⟩ := p
  clear h hsh _hL
  go_enter Tryd.func14, Tryd.ntmps14
  go_wp2_with fail
  refine (HA.out _ HM.out H.out HRR.out).mono ?_
  rintro e w1 ⟨v1, c1, rfl, ho, hc, hb⟩
  have HB1 := Lib.hid hb
  have HO1 := Lib.hid ho
  have HC1 := Lib.hid hc
  have H1 := Lib.hid (nods_below H.out hb)
  clear hb ho hc
  go_wp2_with fail
  refine (HC.out _ H1.out (ruls_below HRR.out HB1.out)).mono ?_
  rintro e w2 ⟨v2, c2, rfl, ho, hc, hb⟩
  have HB2 := Lib.hid (HB1.out.trans (hb.mono HB1.out.size))
  have HO2 := Lib.hid (HO1.out.below hb)
  have HP2 := Lib.hid ho
  have HCC := Lib.hid (HC1.out.trans hc.symm)
  have HN1 := Lib.hid (show c1.length ≤ maxLen by rw [bareE_len HC1.out]; exact HL1.out)
  have HN2 := Lib.hid (show c2.length ≤ maxLen by rw [bareE_len hc]; exact HL1.out)
  clear hb ho hc
  have q1 : (fe == fe) = true := by simp
  go_wp2_with fail
  refine (SameEnts_eq _ _ c1 c2 _ HCC.out (HO2.out.slice HN1.out) (HP2.out.slice HN2.out)).mono ?_
  rintro e w3 ⟨rfl, hb⟩
  have HB3 := Lib.hid (HB2.out.trans (hb.mono HB2.out.size))
  clear hb
  go_wp2
  go_ret
  exact ⟨rfl, HB3.out⟩
end Go.Proofs.YtecmcgedeaemgaaDoor
