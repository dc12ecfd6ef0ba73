/-
  link.Firsts.
-/
import Derived.Test.YtaffgndickdbiaaDoorMeet
import Derived.Test.YtaffgndickdbiaaDoorLinkSpec
import Derived.Test.YtaffgndickdbiaaDoorTreeAll
namespace Go.Creel
set_option linter.unusedVariables false
open Go.RowKit
theorem linkFirsts_bad {l : List Nod} (h : ¬ treeFault l = 0) : linkFirsts l = ([], treeFault l) := by unfold linkFirsts; rw [if_pos h]
theorem linkFirsts_ok {l : List Nod} (h : treeFault l = 0) : linkFirsts l = (firstsL l l.length, 0) := by unfold linkFirsts; rw [if_neg (by simpa using h)]
theorem own_ge {t : TypeId} {w : World} {B : Nat} {v : Value} {l : List Int} (h : OwnIs t w B v l) (x : Nat) (hx : v.ownBlock = some x) : B ≤ x := by
  rcases h.form with ⟨rfl, _⟩ | ⟨g, cap, rfl, hg, _⟩
  · cases hx
  · simp [Value.ownBlock] at hx; omega
theorem ownIs_ne {t : TypeId} {w : World} {B mb : Nat} {v : Value} {l : List Int} (h : OwnIs t w B v l) (hB : mb < B) : v.ownBlock = none ∨ v.ownBlock ≠ some mb := by
  rcases h.form with ⟨rfl, _⟩ | ⟨g, cap, rfl, hg, _⟩
  · exact .inl rfl
  · refine .inr ?_
    intro e
    simp [Value.ownBlock] at e
    omega
end Go.Creel
namespace Go.Proofs.YtaffgndickdbiaaDoor
set_option linter.unusedVariables false
set_option linter.unusedSimpArgs false
open Go.Creel Go.RowKit
/-- meet, whatever the node -/
theorem Meet_any (l : List Nod) (k tb mb B : Nat) (m : List (Int × Value)) (v : Value) (q : List Int) (w0 w : World) (hb0 : Below w0.heap.size w0 w) (hmb : w0.heap.size ≤ mb) (hB : mb < B) (htb : tb ≠ mb) (hc : w.cell? ⟨tb, 0, none⟩ = some (.map (some mb))) (hm : MapIs (fun n : Int => Value.int .i64 n) w mb m) (hf : FIdx l k m) (ho : OwnIs 3 w B v q) :
    Calls Tryd.prog 107 #[.pointer (some ⟨tb, 0, none⟩), (nk l k).val, .int .i64 (k : Int)] w fun e w' => e = .returned (.int .i64 (fstIdx l k : Int)) ∧ Below w0.heap.size w0 w' ∧ w.heap.size ≤ w'.heap.size ∧ w'.cell? ⟨tb, 0, none⟩ = some (.map (some mb)) ∧ OwnIs 3 w' B v q ∧ ∃ m', MapIs (fun n : Int => Value.int .i64 n) w' mb m' ∧ FIdx l (k + 1) m' := by
  have hlt := World.block_lt_of_cell? w _ hc
  by_cases h0 : (nk l k).same = 0
  · refine (Meet_zero tb (nk l k) k w h0).mono ?_
    rintro e w' ⟨rfl, hb⟩
    exact ⟨by rw [fstIdx_zero h0], hb0.trans (hb.mono hb0.size), hb.size, (hb.cell (p := ⟨tb, 0, none⟩) hlt).trans hc, ho.below hb, m, hm.below hb hm.lt, hf.skip h0⟩
  · have ha := hf _ h0
    cases hj : fstAt l k (nk l k).same with
    | some j =>
      rw [hj] at ha
      refine (Meet_has tb mb m (nk l k) k j w h0 hc hm ha).mono ?_
      rintro e w' ⟨rfl, hb⟩
      exact ⟨by rw [fstIdx_some h0 hj], hb0.trans (hb.mono hb0.size), hb.size, (hb.cell (p := ⟨tb, 0, none⟩) hlt).trans hc, ho.below hb, m, hm.below hb hm.lt, hf.has hj⟩
    | none =>
      rw [hj] at ha
      refine (Meet_new tb mb m (nk l k) k w h0 hc hm ha).mono ?_
      rintro e w' ⟨rfl, hm', hg⟩
      refine ⟨by rw [fstIdx_none h0 hj], hb0.grown hg hb0.size (fun x hx => by cases hx; exact hmb), hg.size, ?_, World.ownsRow.kept ho hg (ownIs_ne ho hB), _, hm', hf.put h0 hj⟩
      exact hg.cell hc (by simpa using htb)
set_option maxRecDepth 100000 in
set_option maxHeartbeats 4000000 in
theorem LinkL_at (b off cap : Nat) (l : List Nod) (w : World) (hM : MaxOk w) (hpos : 0 < l.length) (hle : l.length ≤ cap) (hm : cap ≤ maxLen) (hc : NodsAt w b off l) (h : SliceC maxLen 12 (NodC maxLen) w [.slice (some ⟨b, off, none⟩) l.length cap] l) :
    Calls Tryd.prog 77 #[.slice (some ⟨b, off, none⟩) l.length cap] w (RetIE 3 w (linkFirsts l)) := by
  obtain ⟨i0, hi, hz0, hz1, hz2⟩ := info_parts info_int
  have HI := Lib.hid (And.intro hi (And.intro hz0 (And.intro hz1 hz2)))
  have H := Lib.hid h
  have HM := Lib.hid hM
  have HCW := Lib.hid hc
  unfold maxLen at hm
  clear h hM hc hi hz0 hz1 hz2
  have hmm := @run_makeMap Tryd.prog
  by_cases hE : treeFault l = 0
  · have HE := Lib.hid hE
    have HF := Lib.hid (linkFirsts_ok hE)
    have hfew := (treeFault_all hE).1
    clear hE
    go_enter Tryd.func77, Tryd.ntmps77
    go_wp2_with fail
    refine (TreeCheck_any _ l _ HM.out H.out).mono ?_
    rintro e wa ⟨rfl, hb⟩
    have HBA0 := Lib.hid hb
    have HC := Lib.hid (HCW.out.below hb)
    rw [HE.out]
    clear hb
    have HB1 := Lib.hid ((Below.refl wa.heap.size wa).alloc (Nat.le_refl _) (.map #[] 0))
    have HM1 := Lib.hid (MapIs.made (fun n : Int => Value.int .i64 n) wa)
    go_wp2
    clear hmm
    have HC2 : Hid (((wa.alloc (.map #[] 0)).alloc (.cells #[.map (some wa.heap.size)] 131)).cell? ⟨wa.heap.size + 1, 0, none⟩ = some (.map (some wa.heap.size))) := Lib.hid (by
      have e : (wa.alloc (.map #[] 0)).heap.size = wa.heap.size + 1 := by simp
      rw [← e]
      simp [World.cell?_alloc_new])
    have HB2 := Lib.hid (HB1.out.alloc HB1.out.size (.cells #[.map (some wa.heap.size)] 131))
    have HM2 := Lib.hid (HM1.out.below ((Below.refl _ _).alloc (Nat.le_refl _) (.cells #[.map (some wa.heap.size)] 131)) HM1.out.lt)
    generalize hmb : wa.heap.size = mb at HC2 HM2
    have HMB := Lib.hid hmb
    have HB2m : Hid (Below wa.heap.size wa ((wa.alloc (.map #[] 0)).alloc (.cells #[.map (some mb)] 131))) := Lib.hid (by rw [← hmb]; exact HB2.out)
    go_loopw [6, 7, 8, 19] (fun v _ _ i wr => ∃ k : Nat, k ≤ l.length ∧ i = .int .i64 k ∧ Hid (OwnIs 3 wr (mb + 2) v (firstsL l k)) ∧ Hid (Below wa.heap.size wa wr) ∧ Hid (mb + 2 ≤ wr.heap.size) ∧ Hid (wr.cell? ⟨mb + 1, 0, none⟩ = some (.map (some mb))) ∧ Hid (∃ m, MapIs (fun n : Int => Value.int .i64 n) wr mb m ∧ FIdx l k m)) (fun _ _ _ i _ => l.length - (intOf i).toNat)
    case atStart => exact ⟨0, by omega, rfl, Lib.hid (World.ownsRow_nil _ _ _ 1), HB2m, Lib.hid (by rw [← HMB.out]; simp), HC2, Lib.hid ⟨[], HM2.out, FIdx.start l⟩⟩
    case round =>
      obtain ⟨k, hk, rfl, HOW, HB, HSZ, HCT, HMM⟩ := hrel
      have hfl := firstsL_len l k
      by_cases hlt : k < l.length
      · obtain ⟨h0, h1, h2, h3, h4, h5, h6, h7, h8, h9, h10, h11⟩ := (HC.out.below HB.out) k hlt
        go_wp2_with fail
        have hbx := (Below.refl wr.heap.size wr).alloc (Nat.le_refl _) (boxOf (nk l k))
        obtain ⟨m, hm1, hm2⟩ := HMM.out
        refine (Meet_any l k (mb + 1) mb (mb + 2) m _ _ wa _ (HB.out.alloc HB.out.size (boxOf (nk l k))) (by rw [HMB.out]; exact Nat.le_refl _) (by omega) (by omega) ((hbx.cell (p := ⟨mb + 1, 0, none⟩) (Nat.lt_of_lt_of_le (Nat.lt_succ_self _) HSZ.out)).trans HCT.out) (hm1.below hbx hm1.lt) hm2 (HOW.out.below hbx)).mono ?_
        rintro e w3 ⟨rfl, hb, hsz, hct, ho, hmm⟩
        have HB3 := Lib.hid hb
        have HSZ3 := Lib.hid (Nat.le_trans (Nat.le_trans HSZ.out hbx.size) hsz)
        have HA := Lib.hid ((Below.refl w3.heap.size w3).alloc (Nat.le_refl _) (.cells #[.int .i64 (fstIdx l k : Int)] 3))
        have HOA := Lib.hid (OwnIs.below ho HA.out)
        have HBA := Lib.hid (hb.trans (HA.out.mono hb.size))
        have HSA := Lib.hid (Nat.le_trans HSZ3.out HA.out.size)
        have HCA := Lib.hid ((HA.out.cell (p := ⟨mb + 1, 0, none⟩) (World.block_lt_of_cell? w3 _ hct)).trans hct)
        have HMA := Lib.hid (show ∃ m, MapIs (fun n : Int => Value.int .i64 n) (w3.alloc (.cells #[.int .i64 (fstIdx l k : Int)] 3)) mb m ∧ FIdx l (k + 1) m by
          obtain ⟨m', a, c⟩ := hmm
          exact ⟨m', a.below HA.out a.lt, c⟩)
        have HS := Lib.hid (firstsL_succ l k)
        clear hb hsz hct ho hmm hbx hm1 hm2 h0 h1 h2 h3 h4 h5 h6 h7 h8 h9 h10 h11
        generalize fstIdx l k = n at *
        go_wp2_with (at_builtin; refine wpList_app _ rfl (.tmp 24) (.tmp 29) 102 102 rfl _ _ rfl rfl (n := (firstsL l k).length) (fun ty => app_src _ _ _ _ (mb + 2) 3 i0 (.int .i64 0) 1 8 Tryd.underlying102 HI.out.1 HI.out.2.1 HI.out.2.2.1 HI.out.2.2.2 rfl (by decide) _ _ _ _ _ _ HOA.out (src_one w3 _ _ _ Tryd.underlying102 _ rfl) (by unfold maxLen; omega) (by omega) HSA.out) ?_; intro v1 w4 ho hg _)
        have HO4 := Lib.hid (OwnIs.app (m := [(n : Int)]) ho)
        have HNE := Lib.hid (own_ge HOA.out)
        have HB4 := Lib.hid (HBA.out.grown hg HBA.out.size (fun x hx => by have := HNE.out x hx; rw [HMB.out]; omega))
        have HS4 := Lib.hid (Nat.le_trans HSA.out hg.size)
        have HC4 := Lib.hid (hg.cell HCA.out (fun e => by have := HNE.out _ e.symm; simp at this <;> omega))
        have HM4 := Lib.hid (show ∃ m, MapIs (fun n : Int => Value.int .i64 n) w4 mb m ∧ FIdx l (k + 1) m by
          obtain ⟨m', a, c⟩ := HMA.out
          exact ⟨m', a.of_heap (hg.block mb a.lt (fun e => by have := HNE.out _ e.symm; omega)), c⟩)
        clear ho hg
        go_wp2
        go_roundw
        case rel => exact ⟨k + 1, by omega, by go_num, Lib.hid (by rw [HS.out]; exact HO4.out), HB4, HS4, HC4, HM4⟩
        case measure => simp [intOf]; omega
      · obtain rfl : k = l.length := by omega
        have HGE := Lib.hid (show w.heap.size ≤ mb + 2 by have := HBA0.out.size; have := HMB.out; omega)
        go_wp2
        go_ret2
        rw [HF.out]
        exact ⟨_, rfl, HOW.out.mono HGE.out, HBA0.out.trans (HB.out.mono HBA0.out.size)⟩
  · have HF := Lib.hid (linkFirsts_bad hE)
    have HE := Lib.hid hE
    clear hE hmm
    go_enter Tryd.func77, Tryd.ntmps77
    go_wp2_with fail
    refine (TreeCheck_any _ l _ HM.out H.out).mono ?_
    rintro e wc ⟨rfl, hb⟩
    have HBC := Lib.hid hb
    clear hb
    have hne := HE.out
    generalize treeFault l = q at *
    go_wp2
    go_ret2
    rw [HF.out]
    exact ⟨_, rfl, World.ownsRow_nil _ _ _ 1, HBC.out⟩
end Go.Proofs.YtaffgndickdbiaaDoor
