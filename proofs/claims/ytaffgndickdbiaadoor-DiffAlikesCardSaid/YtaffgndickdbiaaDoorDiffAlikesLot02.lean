/-
  Texts of this proof, one behind the other: AlikeL, AnewR, IsortR, DiffR, SameChgs.
-/
import Derived.Test.YtaffgndickdbiaaDoorAlikeSpec
import Derived.Test.YtaffgndickdbiaaDoorSortSpec
import Derived.Test.YtaffgndickdbiaaDoorCopyR
import Derived.Test.YtaffgndickdbiaaDoorPathCmp
import Derived.StillTailTactics
import Derived.Deep.CutRange
import Derived.Test.YtaffgndickdbiaaDoorFindN
import Derived.Test.YtaffgndickdbiaaDoorSameTree
import Derived.Test.YtaffgndickdbiaaDoorDiffAlikesLot01
/-
  diff.Alike, walked.
-/
namespace Go.Proofs.YtaffgndickdbiaaDoor
set_option linter.unusedVariables false
set_option linter.unusedSimpArgs false
open Go.Creel Go.RowKit
set_option maxRecDepth 100000 in
set_option maxHeartbeats 1000000 in
theorem AlikeC_any (x y : Nod) (w : World) (hx : x.Ok maxLen w) (hy : y.Ok maxLen w) :
    Calls Tryd.prog 42 #[x.val, y.val] w fun e w' => e = .returned (.bool (!othB x y)) ∧ Below w.heap.size w w' := by
  have HB := Lib.hid (((Below.refl w.heap.size w).alloc (Nat.le_refl _) (boxOf x)).alloc (by simp) (boxOf y))
  have HS := Lib.hid (Same_any x y ((w.alloc (boxOf x)).alloc (boxOf y)) (hx.below HB.out).data (hy.below HB.out).data)
  have HXZ := Lib.hid ((nodAt_box w x 60).below ((Below.refl _ _).alloc (Nat.le_refl _) (boxOf y)))
  have HYZ := Lib.hid (show NodAt ((w.alloc (boxOf x)).alloc (boxOf y)) (w.heap.size + 1) 0 y from by
    have e := nodAt_box (w.alloc (boxOf x)) y 60
    rwa [show (w.alloc (boxOf x)).heap.size = w.heap.size + 1 by simp] at e)
  clear hx hy
  cases hs : sameB x y with
  | false =>
    have HO := Lib.hid (othB_f hs)
    rw [hs] at HS
    clear hs
    go_enter Tryd.func42, Tryd.ntmps42
    go_wp2_with fail
    refine HS.out.mono ?_
    rintro e w1 ⟨rfl, hb⟩
    have HB1 := Lib.hid (HB.out.trans (hb.mono HB.out.size))
    clear hb
    go_wp2
    go_ret
    exact ⟨ret_b (by rw [HO.out]; rfl), HB1.out⟩
  | true =>
    rw [hs] at HS
    by_cases hn : x.same = y.same
    · have HO := Lib.hid (othB_s hs hn)
      have hq : (x.same == y.same) = true := by rw [hn]; simp
      clear hs hn
      go_enter Tryd.func42, Tryd.ntmps42
      go_wp2_with fail
      refine HS.out.mono ?_
      rintro e w1 ⟨rfl, hb⟩
      have HB1 := Lib.hid (HB.out.trans (hb.mono HB.out.size))
      obtain ⟨h0, h1, h2, h3, h4, h5, h6, h7, h8, h9, h10, h11⟩ := (HXZ.out.below hb).zero
      obtain ⟨g0, g1, g2, g3, g4, g5, g6, g7, g8, g9, g10, g11⟩ := (HYZ.out.below hb).zero
      clear hb
      go_wp2
      go_ret
      exact ⟨ret_b (by rw [HO.out]; rfl), HB1.out⟩
    · have HO := Lib.hid (othB_n hn)
      have hq : (x.same == y.same) = false := by rw [beq_eq_false_iff_ne]; exact hn
      clear hs hn
      go_enter Tryd.func42, Tryd.ntmps42
      go_wp2_with fail
      refine HS.out.mono ?_
      rintro e w1 ⟨rfl, hb⟩
      have HB1 := Lib.hid (HB.out.trans (hb.mono HB.out.size))
      obtain ⟨h0, h1, h2, h3, h4, h5, h6, h7, h8, h9, h10, h11⟩ := (HXZ.out.below hb).zero
      obtain ⟨g0, g1, g2, g3, g4, g5, g6, g7, g8, g9, g10, g11⟩ := (HYZ.out.below hb).zero
      clear hb
      go_wp2
      go_ret
      exact ⟨ret_b (by rw [HO.out]; rfl), HB1.out⟩
/-- an own row of nodes, told of its slice -/
theorem own_row {t : TypeId} {w : World} {B : Nat} {v : Value} {l : List Nod} (h : OwnNods t w B v l) : ∃ p cap, v = .slice p l.length cap ∧ l.length ≤ cap ∧ cap ≤ maxLen ∧ (0 < l.length → ∃ g, p = some ⟨g, 0, none⟩ ∧ ∀ k, k < l.length → NodAt w g (k * 12) (nk l k) ∧ (nk l k).Ok maxLen w) := by
  rcases h.form with ⟨rfl, rfl⟩ | ⟨g, cap, rfl, hgB, hgw, hcap, hcapm⟩
  · exact ⟨none, 0, rfl, by simp, by unfold maxLen; omega, fun h => absurd h (by simp)⟩
  · exact ⟨_, cap, rfl, hcap, hcapm, fun _ => ⟨g, rfl, fun k hk => ⟨h.nodAt hk, (h.nodIn hk).1⟩⟩⟩
set_option maxRecDepth 100000 in
set_option maxHeartbeats 1000000 in
theorem EqualAlike_any (v1 v2 : Value) (B1 B2 : Nat) (l m : List Nod) (w : World) (ho1 : OwnNods 60 w B1 v1 l) (ho2 : OwnNods 60 w B2 v2 m) :
    Calls Tryd.prog 41 #[v1, v2, .func (.func 42) #[] #[]] w fun e w' => ∃ r, e = .returned (.bool r) ∧ (r = true ↔ l.map Nod.bare = m.map Nod.bare) ∧ Below w.heap.size w w' := by
  obtain ⟨p1, cp1, rfl, hcl1, hcm1, hr1⟩ := own_row ho1
  obtain ⟨p2, cp2, rfl, hcl2, hcm2, hr2⟩ := own_row ho2
  by_cases hl : l.length = m.length
  · have HEX := Lib.hid (fun h => bare_ext hl h)
    have HNE := Lib.hid (fun k (hk : k < l.length) (h : ¬ (nk l k).bare = (nk m k).bare) => show ¬ l.map Nod.bare = m.map Nod.bare from fun e => h (bare_nk e hk))
    rw [← hl] at hcl2 hr2 ⊢
    have HR1 := Lib.hid hr1
    have HR2 := Lib.hid hr2
    unfold maxLen at hcm1 hcm2
    clear hl ho1 ho2 hr1 hr2
    generalize hn : l.length = n at *
    go_enter Tryd.func41, Tryd.ntmps41
    go_wp2
    go_loopw [7, 8, 9, 17] (fun _ _ _ i wr => ∃ k : Nat, k ≤ n ∧ i = .int .i64 k ∧ Hid (∀ q, q < k → (nk l q).bare = (nk m q).bare) ∧ Hid (Below w.heap.size w wr)) (fun _ _ _ i _ => n - (intOf i).toNat)
    case atStart => exact ⟨0, by omega, rfl, Lib.hid (fun q hq => absurd hq (by omega)), Lib.hid (Below.refl _ _)⟩
    case round =>
      obtain ⟨k, hk, rfl, HQ, HB⟩ := hrel
      by_cases hlt : k < n
      · obtain ⟨b1, rfl, hc1⟩ := HR1.out (by omega)
        obtain ⟨b2, rfl, hc2⟩ := HR2.out (by omega)
        obtain ⟨h0, h1, h2, h3, h4, h5, h6, h7, h8, h9, h10, h11⟩ := (hc1 k hlt).1.below HB.out
        obtain ⟨g0, g1, g2, g3, g4, g5, g6, g7, g8, g9, g10, g11⟩ := ((hc2 k hlt).1.below HB.out).below ((Below.refl wr.heap.size wr).alloc (Nat.le_refl _) (boxOf (nk l k)))
        have HS := Lib.hid (fun (w3 : World) (hb : Below wr.heap.size wr w3) => AlikeC_any (nk l k) (nk m k) w3 (((hc1 k hlt).2.below HB.out).below hb) (((hc2 k hlt).2.below HB.out).below hb))
        have HN := Lib.hid (fun h => HNE.out k hlt h)
        have HQ2 := Lib.hid (fun (h : (nk l k).bare = (nk m k).bare) => show ∀ q, q < k + 1 → (nk l q).bare = (nk m q).bare from fun q hq => by
          by_cases e : q = k
          · rw [e]; exact h
          · exact HQ.out q (by omega))
        clear hc1 hc2
        generalize nk l k = x at *
        generalize nk m k = y at *
        cases ho : othB x y with
        | true =>
          have HF := Lib.hid (HN.out (othB_iff ho))
          rw [ho] at HS
          clear ho
          go_wp2_with (go_at_call 42; have hbb := ((Below.refl wr.heap.size wr).alloc (Nat.le_refl _) (boxOf x)).alloc (by simp) (boxOf y); refine (HS.out _ hbb).mono ?_; rintro e w' ⟨rfl, hb2⟩; have HB2 := Lib.hid (HB.out.trans ((hbb.trans (hb2.mono hbb.size)).mono HB.out.size)); clear hb2 hbb)
          go_ret
          exact ⟨false, rfl, ⟨fun h => (by cases h), fun h => absurd h HF.out⟩, HB2.out⟩
        | false =>
          have HF := Lib.hid (HQ2.out (othB_no ho))
          rw [ho] at HS
          clear ho
          go_wp2_with (go_at_call 42; have hbb := ((Below.refl wr.heap.size wr).alloc (Nat.le_refl _) (boxOf x)).alloc (by simp) (boxOf y); refine (HS.out _ hbb).mono ?_; rintro e w' ⟨rfl, hb2⟩; have HB2 := Lib.hid (HB.out.trans ((hbb.trans (hb2.mono hbb.size)).mono HB.out.size)); clear hb2 hbb)
          go_roundw
          case rel => exact ⟨k + 1, by omega, by go_num, HF, HB2⟩
          case measure => simp [intOf]; omega
      · obtain rfl : k = n := by omega
        have HF := Lib.hid (HEX.out (fun q hq => HQ.out q hq))
        go_wp2
        go_ret
        exact ⟨true, rfl, ⟨fun _ => HF.out, fun _ => rfl⟩, HB.out⟩
  · have HF := Lib.hid (show ¬ l.map Nod.bare = m.map Nod.bare from fun e => hl (bare_len e))
    have hd : ((l.length : Int) != (m.length : Int)) = true := by rw [bne_iff_ne]; omega
    clear ho1 ho2 hr1 hr2 hl
    go_enter Tryd.func41, Tryd.ntmps41
    go_wp2
    go_ret
    exact ⟨false, rfl, ⟨fun h => (by cases h), fun h => absurd h HF.out⟩, Below.refl _ _⟩
set_option maxRecDepth 100000 in
set_option maxHeartbeats 1000000 in
theorem AlikeL_any2 (v1 v2 : Value) (a b : List Nod) (w : World) (hM : MaxOk w) (ha : SliceC maxLen 12 (NodC maxLen) w [v1] a) (hb : SliceC maxLen 12 (NodC maxLen) w [v2] b) :
    Calls Tryd.prog 12 #[v1, v2] w fun e w' => e = .returned (.tuple #[.bool (alikeOf a b).1, .int .i64 (alikeOf a b).2]) ∧ Below w.heap.size w w' := by
  have HM := Lib.hid hM
  have HSB := Lib.hid hb
  have HA := Lib.hid (AnewL_any v1 a w hM ha)
  have HB := Lib.hid (fun w hM h => AnewL_any v2 b w hM h)
  by_cases hEA : treeFault a = 0
  · rw [linkAnew_ok hEA] at HA
    by_cases hEB : treeFault b = 0
    · rw [linkAnew_ok hEB] at HB
      have HF := Lib.hid (alikeOf_ok hEA hEB)
      have HAT := Lib.hid (fun h => alikeB_t (a := a) (b := b) h)
      have HAF := Lib.hid (fun h => alikeB_f (a := a) (b := b) h)
      clear hM ha hb hEA hEB
      generalize anewL a = x at *
      generalize anewL b = y at *
      generalize alikeB a b = r at *
      go_enter Tryd.func12, Tryd.ntmps12
      go_wp2_with fail
      refine HA.out.mono ?_
      rintro e w1 ⟨u1, c1, rfl, ho, hc, hb⟩
      have HO1 := Lib.hid ho
      have HC1 := Lib.hid hc
      have HB1 := Lib.hid hb
      clear ho hc hb
      go_wp2_with fail
      refine (HB.out _ (HM.out.below HB1.out) (nods_below HSB.out HB1.out)).mono ?_
      rintro e w2 ⟨u2, c2, rfl, ho, hc, hb⟩
      have HO2 := Lib.hid (HO1.out.below hb)
      have HP2 := Lib.hid ho
      have HC2 := Lib.hid hc
      have HB2 := Lib.hid (HB1.out.trans (hb.mono HB1.out.size))
      clear ho hc hb
      go_wp2_with fail
      refine (EqualAlike_any _ _ _ _ c1 c2 _ HO2.out HP2.out).mono ?_
      rintro e w3 ⟨q, rfl, hq, hb⟩
      have HB3 := Lib.hid (HB2.out.trans (hb.mono HB2.out.size))
      have HQ := Lib.hid (show q = r from by
        by_cases h : x.map Nod.bare = y.map Nod.bare
        · rw [HAT.out h]; exact hq.2 (HC1.out.trans (h.trans HC2.out.symm))
        · rw [HAF.out h]
          cases q with
          | false => rfl
          | true => exact absurd (HC1.out.symm.trans ((hq.1 rfl).trans HC2.out)) h)
      clear hq hb
      go_wp2
      go_ret2
      rw [HF.out, ← HQ.out]
      exact ⟨rfl, HB3.out⟩
    · rw [linkAnew_bad hEB] at HB
      have HF := Lib.hid (alikeOf_b hEA hEB)
      generalize treeFault b = q at *
      have hq : (q == 0) = false := by rw [beq_eq_false_iff_ne]; exact hEB
      clear hM ha hb hEA hEB
      go_enter Tryd.func12, Tryd.ntmps12
      go_wp2_with fail
      refine HA.out.mono ?_
      rintro e w1 ⟨u1, c1, rfl, ho, hc, hb⟩
      have HB1 := Lib.hid hb
      clear ho hc hb
      go_wp2_with fail
      refine (HB.out _ (HM.out.below HB1.out) (nods_below HSB.out HB1.out)).mono ?_
      rintro e w2 ⟨u2, c2, rfl, ho, hc, hb⟩
      have HB2 := Lib.hid (HB1.out.trans (hb.mono HB1.out.size))
      clear ho hc hb
      go_wp2
      go_ret2
      rw [HF.out]
      exact ⟨rfl, HB2.out⟩
  · rw [linkAnew_bad hEA] at HA
    have HF := Lib.hid (alikeOf_a (b := b) hEA)
    generalize treeFault a = q at *
    have hq : (q == 0) = false := by rw [beq_eq_false_iff_ne]; exact hEA
    clear hM ha hb hEA
    go_enter Tryd.func12, Tryd.ntmps12
    go_wp2_with fail
    refine HA.out.mono ?_
    rintro e w1 ⟨u1, c1, rfl, ho, hc, hb⟩
    have HB1 := Lib.hid hb
    clear ho hc hb
    go_wp2
    go_ret2
    rw [HF.out]
    exact ⟨rfl, HB1.out⟩
end Go.Proofs.YtaffgndickdbiaaDoor
/-
  creelref.LinkAnew.
-/
namespace Go.Proofs.YtaffgndickdbiaaDoor
set_option linter.unusedVariables false
set_option linter.unusedSimpArgs false
open Go.Creel Go.RowKit
set_option maxRecDepth 100000 in
set_option maxHeartbeats 4000000 in
theorem AnewR_any (v : Value) (l : List Nod) (w : World) (h : SliceC maxLen 12 (NodC maxLen) w [v] l) :
    Calls Tryd.prog 43 #[v] w (RetTE 60 w (linkAnew l)) := by
  have H := Lib.hid h
  by_cases hE : treeFault l = 0
  · have HF := Lib.hid (linkAnew_ok hE)
    have HL1 := Lib.hid (linkFirsts_ok hE)
    have HL2 := Lib.hid (linkNames_ok hE)
    have hfew := (treeFault_all hE).1
    have HD := Lib.hid (treeFault_data hE)
    clear hE h
    go_enter Tryd.func43, Tryd.ntmps43
    go_wp2_with fail
    refine (LinkR_any v l _ H.out).mono ?_
    rintro e w1 ⟨v1, rfl, ho, hb⟩
    rw [HL1.out] at ho ⊢
    have HB1 := Lib.hid hb
    have HO1 := Lib.hid ho
    have H1 := Lib.hid (nods_below H.out hb)
    clear hb ho
    go_wp2_with fail
    refine (NamesR_any v l _ H1.out).mono ?_
    rintro e w2 ⟨v2, rfl, ho, hb⟩
    rw [HL2.out] at ho ⊢
    have HB2 := Lib.hid (HB1.out.trans (hb.mono HB1.out.size))
    have HO2 := Lib.hid (HO1.out.below hb)
    have HP2 := Lib.hid ho
    have H2 := Lib.hid (nods_below H1.out hb)
    clear hb ho
    go_wp2_with fail
    refine (CopyR_any v l _ H2.out (by omega) HD.out).mono ?_
    rintro e w3 ⟨v3, c, rfl, ho, hcl, hb⟩
    have HB3 := Lib.hid hb
    have hlen := bare_len hcl
    obtain ⟨p, cap, rfl, hp⟩ := slice_formN ho
    rw [hlen] at ho hp ⊢
    have HP := Lib.hid hp
    have HO3 := Lib.hid ho
    have HT := Lib.hid (AnewTo.start hcl)
    obtain ⟨p1, cap1, rfl, hp1⟩ := slice_formI HO2.out
    obtain ⟨p2, cap2, rfl, hp2⟩ := slice_formI HP2.out
    have hfl := firstsL_len l l.length
    have hnl := namesN_len l l.length
    rw [hfl] at hp1
    rw [hnl] at hp2
    have HQ1 := Lib.hid hp1
    have HQ2 := Lib.hid hp2
    clear hb ho hp hcl hlen hp1 hp2
    go_wp2
    go_loopw [9] (fun i wr => ∃ (k : Nat) (m : List Nod), k ≤ l.length ∧ i = .int .i64 k ∧ Hid (OwnNods 60 wr w2.heap.size (.slice p l.length cap) m) ∧ Hid (AnewTo l m k) ∧ Hid (Below w2.heap.size w2 wr)) (fun i _ => l.length - (intOf i).toNat)
    case atStart => exact ⟨0, c, by omega, rfl, HO3, HT, HB3⟩
    case round =>
      obtain ⟨k, m, hk, rfl, HOM, HTM, HBM⟩ := hrel
      by_cases hlt : k < l.length
      · obtain ⟨g, rfl, hgB⟩ := HP.out (by omega)
        obtain ⟨g1, rfl⟩ := HQ1.out (by omega)
        obtain ⟨g2, rfl⟩ := HQ2.out (by omega)
        have HZ := Lib.hid (HOM.out.putSame HTM.out.1 hlt 0 (by unfold i64; omega))
        have HBZ := Lib.hid (HBM.out.setCell (p := ⟨g, k * 12 + 2, none⟩) hgB (.int .i64 0))
        have hcz := HZ.out.2.1
        have hfz := HZ.out.2.2.1
        have hmc := (HP2.out.below HBZ.out).cell (j := k) (by omega)
        rw [namesN_at hlt] at hmc
        have hfle := fstIdx_le l k
        have HAN := Lib.hid (show anewOf l k = if 1 < manyN l l.length (fstIdx l k) then (fstIdx l k : Int) + 1 else 0 from rfl)
        have HST := Lib.hid (HTM.out.step hlt)
        have hlc := (HO2.out.below HBZ.out).cell (j := k) (by omega)
        rw [firstsL_at hlt] at hlc
        generalize manyN l l.length (fstIdx l k) = n at *
        generalize fstIdx l k = f at *
        by_cases hn : 1 < n
        · have hd : decide ((1 : Int) < (n : Int)) = true := decide_eq_true (by omega)
          have HAN2 := Lib.hid (HAN.out.trans (if_pos hn))
          have HY := Lib.hid (HZ.out.1.putSame (by rw [List.length_set]; exact HTM.out.1) hlt ((f : Int) + 1) (by unfold i64; omega))
          have HBY := Lib.hid (HBZ.out.setCell (p := ⟨g, k * 12 + 2, none⟩) hgB (.int .i64 ((f : Int) + 1)))
          have hcy := HY.out.2.1
          have hfy := HY.out.2.2.1
          have HYO := Lib.hid HY.out.1
          rw [set_again, ← HAN2.out] at HYO
          clear hn
          go_wp2
          go_roundw
          case rel => exact ⟨k + 1, _, by omega, by go_num, by rw [HAN2.out] at HYO; rw [← HAN2.out] at HYO ⊢; exact HYO, HST, HBY⟩
          case measure => simp [intOf]; omega
        · have hd : decide ((1 : Int) < (n : Int)) = false := decide_eq_false (by omega)
          have HAN2 := Lib.hid (HAN.out.trans (if_neg hn))
          have HZO := Lib.hid HZ.out.1
          rw [← HAN2.out] at HZO
          clear hn
          go_wp2
          go_roundw
          case rel => exact ⟨k + 1, _, by omega, by go_num, by rw [HAN2.out] at HZO; exact HZO, by have e := HST.out; rw [HAN2.out] at e; exact Lib.hid e, HBZ⟩
          case measure => simp [intOf]; omega
      · obtain rfl : k = l.length := by omega
        go_wp2
        go_ret2
        rw [HF.out]
        exact ⟨_, m, rfl, HOM.out.mono HB2.out.size, HTM.out.done, HB2.out.trans (HBM.out.mono HB2.out.size)⟩
  · have HF := Lib.hid (linkAnew_bad hE)
    have HL1 := Lib.hid (linkFirsts_bad hE)
    have HE := Lib.hid hE
    clear hE h
    go_enter Tryd.func43, Tryd.ntmps43
    go_wp2_with fail
    refine (LinkR_any v l _ H.out).mono ?_
    rintro e w1 ⟨v1, rfl, ho, hb⟩
    rw [HL1.out]
    have HB1 := Lib.hid hb
    have hne := HE.out
    clear hb ho
    generalize treeFault l = q at *
    go_wp2
    go_ret2
    rw [HF.out]
    exact ⟨_, [], rfl, OwnNods.nil _ _ _, rfl, HB1.out⟩
end Go.Proofs.YtaffgndickdbiaaDoor
/-
  creelref.OrderSort, walked.
-/
namespace Go.Creel
set_option linter.unusedVariables false
set_option linter.unusedSimpArgs false
open Go.RowKit
theorem isort_dat {l : List Nod} (h : ∀ i, i < l.length → (nk l i).data.length ≤ 140737488355328) : ∀ i, i < (isort l).length → (nk (isort l) i).data.length ≤ 140737488355328 :=
  list_dat (fun x hx => dat_list h x (isort_mem.1 hx))
/-- parts of a row may lie in a younger one -/
theorem part_in {t : TypeId} {w w' : World} {B : Nat} {v u : Value} {o m : List Nod} (hown : OwnNods t w B v o) (hb : Below w.heap.size w w') (hm : ∀ x ∈ m, x ∈ o) (hu : ∀ b, u.ownBlock = some b → w.heap.size ≤ b) : ∀ x, x ∈ m → NodIn w' u x := by
  intro x hx
  have h1 := (hown.2 x (hm x hx)).1
  refine ⟨h1.below hb, fun a hp ha he => ?_⟩
  have h2 := h1.lt a hp ha
  have h3 := hu _ he
  omega
theorem own_slice {t : TypeId} {w : World} {B n : Nat} {v : Value} {l : List Nod} (h : OwnNods t w B v l) (hn : l.length = n) : ∃ p cap, v = .slice p n cap ∧ n ≤ cap ∧ cap ≤ maxLen ∧ (0 < n → ∃ g, p = some ⟨g, 0, none⟩ ∧ B ≤ g) := by
  subst hn
  rcases h.form with ⟨rfl, rfl⟩ | ⟨g, cap, rfl, hgB, hgw, hcap, hcapm⟩
  · exact ⟨none, 0, rfl, Nat.le_refl _, by unfold maxLen; omega, fun h => absurd h (by simp)⟩
  · exact ⟨_, _, rfl, hcap, hcapm, fun _ => ⟨g, rfl, hgB⟩⟩
theorem backB (o : List Nod) (n : Nod) (j : Nat) : decide (0 < j ∧ 0 < ordN (nk o (j - 1)) n) = (decide (0 < j) && decide (0 < ordN (nk o (j - 1)) n)) := by
  rw [Bool.decide_and]
end Go.Creel
namespace Go.Proofs.YtaffgndickdbiaaDoor
set_option linter.unusedVariables false
set_option linter.unusedSimpArgs false
open Go.Creel Go.RowKit
set_option maxRecDepth 100000 in
set_option maxHeartbeats 4000000 in
theorem IsortR_at (b off cap : Nat) (l : List Nod) (w : World) (hpos : 0 < l.length) (hfew : l.length ≤ 8000000000) (hle : l.length ≤ cap) (hm : cap ≤ maxLen) (hc : NodsAt w b off l) (hok : ∀ i, i < l.length → (nk l i).Ok maxLen w) (hdat : ∀ i, i < l.length → (nk l i).data.length ≤ 140737488355328) (hps : ∀ i, i < l.length → (nk l i).path.size ≤ 1048576) :
    Calls Tryd.prog 15 #[.slice (some ⟨b, off, none⟩) l.length cap] w (RetT 60 w (isort l)) := by
  obtain ⟨i0, hi, hz0, hz1, hz2⟩ := info_parts info_node
  have HI := Lib.hid (And.intro hi (And.intro hz0 (And.intro hz1 hz2)))
  have HC := Lib.hid hc
  have HK := Lib.hid hok
  have HD := Lib.hid hdat
  have HPS := Lib.hid (fun (x : Nod) (hx : x ∈ l) => show x.path.size ≤ 1048576 from by
    obtain ⟨i, hi, e⟩ := List.mem_iff_getElem.1 hx
    rw [← e, ← nk_eq hi]; exact hps i hi)
  have hlen := isort_len l
  unfold maxLen at hm
  clear hc hok hdat hps hi hz0 hz1 hz2
  go_enter Tryd.func15, Tryd.ntmps15
  go_wp2
  go_loopw [3, 5, 6, 7, 10] (fun v _ _ _ i wr => ∃ (k : Nat) (vv : Value) (o : List Nod), k ≤ l.length ∧ i = .int .i64 k ∧ vv = v ∧ Hid (o = isort (l.take k)) ∧ Hid (OwnNods 60 wr w.heap.size vv o) ∧ Hid (Below w.heap.size w wr)) (fun _ _ _ _ i _ => l.length - (intOf i).toNat)
  case atStart => exact ⟨0, _, [], by omega, rfl, rfl, Lib.hid rfl, Lib.hid (OwnNods.nil _ _ _), Lib.hid (Below.refl _ _)⟩
  case round =>
    obtain ⟨k, vv, o, hk, rfl, rfl, HE, HOW, HB⟩ := hrel
    by_cases hlt : k < l.length
    · obtain ⟨h0, h1, h2, h3, h4, h5, h6, h7, h8, h9, h10, h11⟩ := (HC.out.below HB.out) k hlt
      have hol : o.length = k := by rw [HE.out, isort_len, List.length_take]; omega
      have HSO := Lib.hid (show o.Pairwise PathLe by rw [HE.out]; exact isort_sorted _)
      have HNX := Lib.hid (show isort (l.take (k + 1)) = insN o (nk l k) by rw [HE.out]; exact isort_take hlt)
      have HPO := Lib.hid (fun j (hj : j < k) => show (nk o j).path.size ≤ 1048576 from by
        have hm : nk o j ∈ isort (l.take k) := by rw [← HE.out]; exact nk_mem (by omega)
        exact HPS.out _ (List.mem_of_mem_take (isort_mem.1 hm)))
      have HPX := Lib.hid (HPS.out _ (nk_mem hlt))
      have HKX := Lib.hid (HK.out k hlt)
      obtain ⟨p, cap', rfl, hcl, hcm, hp⟩ := own_slice HOW.out hol
      have HP := Lib.hid hp
      clear hp
      unfold maxLen at hcm
      generalize nk l k = x at *
      have HBX := Lib.hid ((Below.refl wr.heap.size wr).alloc (Nat.le_refl _) (boxOf x))
      have HXZ := Lib.hid (nodAt_box wr x 60)
      obtain ⟨wo, rfl⟩ : ∃ wo : World, wo = wr := ⟨_, rfl⟩
      go_wp2
      go_loopw [6] (fun v6 wi => ∃ j : Nat, j ≤ k ∧ v6 = .int .i64 j ∧ Hid (∀ q, j ≤ q → q < o.length → 0 < ordN (nk o q) x) ∧ Hid (Below wo.heap.size wo wi) ∧ Hid (NodAt wi wo.heap.size 0 x)) (fun v6 _ => (intOf v6).toNat)
      case atStart => exact ⟨k, Nat.le_refl _, rfl, Lib.hid (fun q h1 h2 => absurd h1 (by omega)), HBX, HXZ⟩
      case round =>
        obtain ⟨j, hj, rfl, HGT, HBI, HZI⟩ := hrel
        obtain ⟨c0, c1, c2, c3, c4, c5, c6, c7, c8, c9, c10, c11⟩ := HZI.out.zero
        obtain ⟨w2, rfl⟩ : ∃ w2 : World, w2 = wr := ⟨_, rfl⟩
        go_upto_region 6 with fail
        go_cut [6, 29] from 16 to 29 (fun c6 u wc => c6 = .int .i64 j ∧ u = .bool (decide (0 < j ∧ 0 < ordN (nk o (j - 1)) x)) ∧ Hid (Below w2.heap.size w2 wc))
        case first =>
          by_cases hj0 : j = 0
          · subst hj0
            go_wp2
            go_quiet (fail)
            go_wp2_with fail
            go_meet
            case rel => exact ⟨rfl, by simp, Lib.hid (below_draws _ _ _)⟩
          · obtain ⟨q, rfl⟩ : ∃ q, j = q + 1 := ⟨j - 1, by omega⟩
            obtain ⟨g, rfl, hgB⟩ := HP.out (by omega)
            have HO2 := Lib.hid (HOW.out.below HBI.out)
            obtain ⟨q0, _⟩ := (show NodAt w2 g (q * 12) (nk o q) from (by have e := HO2.out; rw [← hol] at e; exact e.nodAt (by omega)))
            have hwq : IntKind.i64.wrap (q : Int) = (q : Int) := by rw [IntKind.wrap_i64]; omega
            have hql : (q : Int) < (k : Int) := by omega
            have hPq := HPO.out q (by omega)
            generalize hy : nk o q = y at *
            go_wp2
            go_still_tail 11, (by kernel_rfl)
            go_wp2_with fail
            refine (PathOrder_any _ _ _ hPq HPX.out).mono ?_
            rintro e wc ⟨rfl, hb⟩
            have HBC := Lib.hid ((Below.refl w2.heap.size w2).drew.trans hb)
            clear hb
            go_wp2_with fail
            go_meet
            case rel => exact ⟨by go_num, by rw [Nat.add_sub_cancel, hy]; simp [ordN], HBC⟩
        case rest =>
          obtain ⟨rfl, rfl, HBC⟩ := hcut
          have HBW := Lib.hid (HBI.out.trans (HBC.out.mono HBI.out.size))
          have HZW := Lib.hid (HZI.out.below HBC.out)
          by_cases hcb : 0 < j ∧ 0 < ordN (nk o (j - 1)) x
          · obtain ⟨q, rfl⟩ : ∃ q, j = q + 1 := ⟨j - 1, by omega⟩
            have HG2 := Lib.hid (show ∀ p, q ≤ p → p < o.length → 0 < ordN (nk o p) x from fun p h1 h2 => by
              by_cases e : p = q
              · rw [e]; exact hcb.2
              · exact HGT.out p (by omega) h2)
            rw [decide_eq_true hcb]
            clear hcb
            go_wp2
            go_roundw
            case rel => exact ⟨q, by omega, by go_num, HG2, HBW, HZW⟩
            case measure => simp [intOf]
          · have HIN := Lib.hid (ins_at (n := x) HSO.out (by omega : j ≤ o.length) HGT.out (fun h0 => Int.not_lt.1 fun h => hcb ⟨h0, h⟩))
            rw [decide_eq_false hcb]
            clear hcb
            have HR := Lib.hid (HB.out.trans (HBW.out.mono HB.out.size))
            have HOC := Lib.hid (HOW.out.below HBW.out)
            have hst := fun w => run_takeN w p k cap' j hj hcl
            have hdr := fun w => run_dropN w p k cap' j hj hcl
            have HSC := Lib.hid (by have e := HOC.out; rw [← hol] at e; exact e.slice (by unfold maxLen; omega))
            have HTK := Lib.hid (nods_take HSC.out (i := j) (by omega))
            have HDK := Lib.hid (nods_drop HSC.out (i := j) (by omega))
            rw [hol] at HDK
            have hlt1 : (o.take j).length = j := by rw [List.length_take]; omega
            have hld1 : (o.drop j).length = k - j := by rw [List.length_drop]; omega
            generalize sliced p j k cap' 12 = u at *
            have HA1 := Lib.hid ((Below.refl wc.heap.size wc).alloc (Nat.le_refl _) (.cells #[] 60))
            have HE1 := Lib.hid (show OwnNods 60 (wc.alloc (.cells #[] 60)) wc.heap.size (.slice (some ⟨wc.heap.size, 0, none⟩) 0 0) [] from ⟨World.ownsRow_made wc #[] 0 (Nat.le_refl _) (by unfold maxLen; omega) rfl, fun x hx => absurd hx (by simp)⟩)
            have HT1 := Lib.hid (nods_below HTK.out HA1.out)
            go_upto_region 9 with (at_builtin; refine wpList_app _ rfl (.tmp 32) (.tmp 35) 22 22 rfl _ _ rfl rfl (fun ty => app_src _ 22 22 ty wc.heap.size 60 i0 _ 12 144 Tryd.underlying22 HI.out.1 HI.out.2.1 HI.out.2.2.1 HI.out.2.2.2 rfl (by decide) _ _ ([] : List Nod).length (o.take j).length _ _ HE1.out.1 (src_nods Tryd.underlying22 HT1.out) (by simp only [hlt1, hld1, List.length_nil, List.length_append, List.length_cons]; unfold maxLen; omega) (by simp only [hlt1, hld1, List.length_nil, List.length_append, List.length_cons]; omega) HA1.out.size) ?_; intro v1 w1 ho hg hv; have HZ1 := Lib.hid (And.intro ho (And.intro hg hv.2)); clear ho hg hv)
            have HO1 := Lib.hid (show OwnNods 60 w1 wc.heap.size v1 (o.take j) from HE1.out.app (m := o.take j) (part_in HOC.out HA1.out (fun y hy => List.mem_of_mem_take hy) (fun b h => by simp [Value.ownBlock] at h; omega)) HZ1.out.1 HZ1.out.2.1 HZ1.out.2.2)
            have HB1 := Lib.hid (below_app HA1.out HZ1.out.2.1 HE1.out.1 HA1.out.size)
            have HZW1 := Lib.hid (HZW.out.below HB1.out)
            obtain ⟨m0, m1, m2, m3, m4, m5, m6, m7, m8, m9, m10, m11⟩ := HZW1.out.zero
            have HA2 := Lib.hid (HB1.out.alloc HB1.out.size (boxOf x))
            have HO1b := Lib.hid (HO1.out.below ((Below.refl w1.heap.size w1).alloc (Nat.le_refl _) (boxOf x)))
            have HN2 := Lib.hid (nodIn_arg HKX.out (HR.out.trans (HA2.out.mono HR.out.size)) (HO1.out.mono HR.out.size))
            go_upto_region 10 with (at_builtin; refine wpList_app _ rfl (.tmp 37) (.tmp 39) 22 22 rfl _ _ rfl rfl (fun ty => app_src _ 22 22 ty wc.heap.size 60 i0 _ 12 144 Tryd.underlying22 HI.out.1 HI.out.2.1 HI.out.2.2.1 HI.out.2.2.2 rfl (by decide) _ _ (o.take j).length 1 _ _ HO1b.out.1 (src_nod w1 _ _ _ Tryd.underlying22 x) (by simp only [hlt1, hld1, List.length_nil, List.length_append, List.length_cons]; unfold maxLen; omega) (by simp only [hlt1, hld1, List.length_nil, List.length_append, List.length_cons]; omega) HA2.out.size) ?_; intro v2 w3 ho hg hv; have HZ2 := Lib.hid (And.intro ho (And.intro hg hv.2)); clear ho hg hv)
            have HO2 := Lib.hid (HO1b.out.app (m := [x]) (fun y hy => by rw [List.mem_singleton.1 hy]; exact HN2.out) HZ2.out.1 HZ2.out.2.1 HZ2.out.2.2)
            have HB2 := Lib.hid (below_app HA2.out HZ2.out.2.1 HO1b.out.1 HA2.out.size)
            have HD2 := Lib.hid (nods_below HDK.out HB2.out)
            clear m0 m1 m2 m3 m4 m5 m6 m7 m8 m9 m10 m11
            go_wp2_with (at_builtin; refine wpList_app _ rfl (.tmp 41) (.tmp 44) 22 22 rfl _ _ rfl rfl (fun ty => app_src _ 22 22 ty wc.heap.size 60 i0 _ 12 144 Tryd.underlying22 HI.out.1 HI.out.2.1 HI.out.2.2.1 HI.out.2.2.2 rfl (by decide) _ _ (o.take j ++ [x]).length (o.drop j).length _ _ HO2.out.1 (src_nods Tryd.underlying22 HD2.out) (by simp only [hlt1, hld1, List.length_nil, List.length_append, List.length_cons]; unfold maxLen; omega) (by simp only [hlt1, hld1, List.length_nil, List.length_append, List.length_cons]; omega) HB2.out.size) ?_; intro v4 w4 ho hg hv; have HZ3 := Lib.hid (And.intro ho (And.intro hg hv.2)); clear ho hg hv)
            have HO3 := Lib.hid (HO2.out.app (m := o.drop j) (part_in HOC.out HB2.out (fun y hy => List.mem_of_mem_drop hy) (fun b h => (World.ownsRow.lt HO2.out.1 b h).1)) HZ3.out.1 HZ3.out.2.1 HZ3.out.2.2)
            have HB3 := Lib.hid (HR.out.trans ((below_app HB2.out HZ3.out.2.1 HO2.out.1 HB2.out.size).mono HR.out.size))
            have HO4 := Lib.hid (show OwnNods 60 w4 w.heap.size v4 (insN o x) from by
              rw [HIN.out]
              have e := HO3.out.mono HR.out.size
              rw [List.append_assoc] at e
              exact e)
            go_roundw
            case rel => exact ⟨k + 1, _, _, by omega, by go_num, rfl, Lib.hid HNX.out.symm, HO4, HB3⟩
            case measure => simp [intOf]; omega
    · obtain rfl : k = l.length := by omega
      rw [List.take_length] at HE
      have HDO := Lib.hid (show ∀ i, i < o.length → (nk o i).data.length ≤ 140737488355328 from by rw [HE.out]; exact isort_dat HD.out)
      have hol : o.length = l.length := by rw [HE.out]; exact hlen
      go_wp2_with fail
      refine (CopyR_any _ o _ (HOW.out.slice (by unfold maxLen; omega)) (by omega) HDO.out).mono ?_
      rintro e w5 ⟨v5, c, rfl, ho, hcb, hb⟩
      have HO5 := Lib.hid (ho.mono HB.out.size)
      have HB5 := Lib.hid (HB.out.trans (hb.mono HB.out.size))
      have HC5 := Lib.hid hcb
      clear ho hb hcb
      go_wp2
      go_ret
      rw [← HE.out]
      exact ⟨_, c, rfl, HO5.out, HC5.out, HB5.out⟩
set_option maxRecDepth 100000 in
theorem IsortR_nil (a : Option Addr) (cap : Nat) (w : World) : Calls Tryd.prog 15 #[.slice a 0 cap] w (RetT 60 w []) := by
  go_enter Tryd.func15, Tryd.ntmps15
  go_wp2
  go_loop [3, 5, 6, 7, 10] (fun v _ _ _ i => i = .int .i64 0 ∧ v = .slice none 0 0) (fun _ _ _ _ _ => 0)
  case atStart => exact ⟨rfl, rfl⟩
  case round =>
    obtain ⟨rfl, rfl⟩ := hrel
    go_wp2_with fail
    refine (CopyR_nil none 0 _).mono ?_
    rintro e w5 ⟨v5, c, rfl, ho, hcb, hb⟩
    have HO5 := Lib.hid ho
    have HB5 := Lib.hid hb
    have HC5 := Lib.hid hcb
    clear ho hb hcb
    go_wp2
    go_ret
    exact ⟨_, c, rfl, HO5.out, HC5.out, HB5.out⟩
theorem IsortR_any (v : Value) (l : List Nod) (w : World) (h : SliceC maxLen 12 (NodC maxLen) w [v] l) (hfew : l.length ≤ 8000000000) (hdat : ∀ i, i < l.length → (nk l i).data.length ≤ 140737488355328) (hps : ∀ i, i < l.length → (nk l i).path.size ≤ 1048576) :
    Calls Tryd.prog 15 #[v] w (RetT 60 w (isort l)) := by
  rcases nods_cases h with ⟨a, cap, rfl, rfl, _⟩ | ⟨b, off, cap, rfl, h1, h2, h3, h6, h4, h5⟩
  · exact IsortR_nil a cap w
  · exact IsortR_at b off cap l w h1 hfew h2 h3 h4 h5 hdat hps
end Go.Proofs.YtaffgndickdbiaaDoor
/-
  creelref.DiffOf, walked.
-/
namespace Go.Creel
set_option linter.unusedVariables false
set_option linter.unusedSimpArgs false
open Go.RowKit
/-- what the reference has said of the first k of all nodes -/
def RefTo (a b c : List Nod) (k : Nat) (o : List Chg) : Prop := o.map Chg.bare = ((c.take k).flatMap fun n => chgAt a b n.path).map Chg.bare
section
variable {a b c : List Nod} {k : Nat} {o : List Chg}
theorem RefTo.step (h : RefTo a b c k o) (hk : k < c.length) (o' : List Chg) (ho : o'.map Chg.bare = (chgAt a b (nk c k).path).map Chg.bare) : RefTo a b c (k + 1) (o ++ o') := by
  unfold RefTo at h ⊢
  rw [take_nk hk, List.flatMap_append, List.map_append, List.map_append, h, ho]
  simp
theorem flat_bare {m : List Nod} : ∀ {c d : List Nod}, c.map Nod.bare = d.map Nod.bare → (c.flatMap fun n => chgAt a b n.path) = d.flatMap fun n => chgAt a b n.path
  | [], [], _ => rfl
  | [], _ :: _, h => by simp at h
  | _ :: _, [], h => by simp at h
  | x :: c, y :: d, h => by
    simp only [List.map_cons, List.cons.injEq] at h
    rw [List.flatMap_cons, List.flatMap_cons, (bare_parts h.1).1, flat_bare (m := m) h.2]
theorem RefTo.done (h : RefTo a b c c.length o) (hc : c.map Nod.bare = (isort (allN a b)).map Nod.bare) (ha : OrdL a) (hb : OrdL b) : o.map Chg.bare = (diffL a b).map Chg.bare := by
  unfold RefTo at h
  rw [List.take_length] at h
  rw [h, flat_bare (m := []) hc, diff_sorted ha hb]
theorem flat_one (a b : List Nod) : ∀ c : List Nod, (c.flatMap fun n => chgAt a b n.path).length ≤ c.length
  | [] => Nat.le_refl _
  | x :: c => by
    have ih := flat_one a b c
    have h1 : (chgAt a b x.path).length ≤ 1 := by
      unfold chgAt
      by_cases e : treeFind b x.path = b.length
      · rw [if_pos e]; simp
      · rw [if_neg e]
        by_cases e2 : treeFind a x.path = a.length
        · rw [if_pos e2]; simp
        · rw [if_neg e2]; exact othN_len _ _
    rw [List.flatMap_cons, List.length_append, List.length_cons]; omega
theorem RefTo.len (h : RefTo a b c k o) : o.length ≤ c.length := by
  have h1 := congrArg List.length h
  have h2 := flat_one a b (c.take k)
  simp only [List.length_map] at h1
  rw [List.length_take] at h2
  omega
theorem allN_mem {z : Nod} (h : z ∈ allN a b) (hn : treeFind b z.path = b.length) : treeFind a z.path < a.length := by
  unfold allN at h
  rcases List.mem_append.1 h with h1 | h1
  · exact find_mem h1 rfl
  · exact absurd rfl (find_out.1 hn z (List.mem_filter.1 h1).1)
theorem all_mem (hc : c.map Nod.bare = (isort (allN a b)).map Nod.bare) (hk : k < c.length) : ∃ z ∈ allN a b, z.path = (nk c k).path := by
  have hl : c.length = (isort (allN a b)).length := bare_len hc
  refine ⟨nk (isort (allN a b)) k, isort_mem.1 (nk_mem (by omega)), ?_⟩
  exact (bare_parts (bare_nk hc hk)).1.symm
theorem chgAt_gone {s : ByteArray} (h : treeFind b s = b.length) : chgAt a b s = [⟨1, nk a (treeFind a s)⟩] := by unfold chgAt; rw [if_pos h]
theorem chgAt_new {s : ByteArray} (h : ¬ treeFind b s = b.length) (h2 : treeFind a s = a.length) : chgAt a b s = [⟨2, nk b (treeFind b s)⟩] := by unfold chgAt; rw [if_neg h, if_pos h2]
theorem chgAt_both {s : ByteArray} (h : ¬ treeFind b s = b.length) (h2 : ¬ treeFind a s = a.length) : chgAt a b s = othN (nk a (treeFind a s)) (nk b (treeFind b s)) := by unfold chgAt; rw [if_neg h, if_neg h2]
end
theorem nods_one {w : World} {b off cap i : Nat} {l : List Nod} (hok : (nk l i).Ok maxLen w) (hc : NodAt w b (off + i * 12) (nk l i)) (hi : i < cap) (hm : cap ≤ maxLen) : SliceC maxLen 12 (NodC maxLen) w [.slice (some ⟨b, off + i * 12, none⟩) 1 (cap - i)] [nk l i] := by
  obtain ⟨h0, h1, h2, h3, h4, h5, h6, h7, h8, h9, h10, h11⟩ := hc
  refine ⟨_, _, rfl, by simp; omega, by omega, by unfold maxLen; simp, (fun h => by cases h), fun _ => ⟨b, off + i * 12, rfl, fun k hk => ⟨(nk l i).cells, rfl, fun j hj => ?_, ?_, ?_⟩⟩⟩
  · obtain rfl : k = 0 := by simp at hk; omega
    have hz : off + i * 12 + 0 * 12 + j = off + i * 12 + j := by omega
    rw [hz]
    rcases j with _ | _ | _ | _ | _ | _ | _ | _ | _ | _ | _ | _ | j
    · exact h0
    · exact h1
    · exact h2
    · exact h3
    · exact h4
    · exact h5
    · exact h6
    · exact h7
    · exact h8
    · exact h9
    · exact h10
    · exact h11
    · omega
  · obtain rfl : k = 0 := by simp at hk; omega
    rfl
  · obtain rfl : k = 0 := by simp at hk; omega
    exact hok
theorem filter_take_len (a b : List Nod) (k : Nat) : (a ++ (b.take k).filter (newB a)).length ≤ a.length + b.length := by
  have h1 := List.length_filter_le (newB a) (b.take k)
  rw [List.length_take] at h1
  rw [List.length_append]; omega
theorem allN_of {P : Nod → Prop} {a b : List Nod} (ha : ∀ x ∈ a, P x) (hb : ∀ x ∈ b, P x) : ∀ x ∈ allN a b, P x := by
  intro x hx
  rcases List.mem_append.1 hx with h | h
  · exact ha x h
  · exact hb x (List.mem_filter.1 h).1
theorem list_of_nk {P : Nod → Prop} {l : List Nod} (h : ∀ i, i < l.length → P (nk l i)) : ∀ x ∈ l, P x := by
  intro x hx
  obtain ⟨i, hi, e⟩ := List.mem_iff_getElem.1 hx
  rw [← e, ← nk_eq hi]; exact h i hi
theorem nk_of_list {P : Nod → Prop} {l : List Nod} (h : ∀ x ∈ l, P x) : ∀ i, i < l.length → P (nk l i) := fun i hi => h _ (nk_mem hi)
end Go.Creel
namespace Go.Proofs.YtaffgndickdbiaaDoor
set_option linter.unusedVariables false
set_option linter.unusedSimpArgs false
open Go.Creel Go.RowKit
theorem run_oneN (w : World) (b off n cap i : Nat) (h : i < n) (hc : n ≤ cap) : (Instr.slice 22 (.slice (some ⟨b, off, none⟩) n cap) (some (.int .i64 i)) (some (.int .i64 ((i : Int) + 1))) none).run Tryd.prog w = .ok (.slice (some ⟨b, off + i * 12, none⟩) 1 (cap - i)) w := by
  rw [run_slice_lh w 22 _ n cap (by kernel_rfl) .i64 .i64 i ((i : Int) + 1) (by omega) (by omega) (by omega)]
  have hs : (sizeOf (Tryd.prog.elem 22)).run Tryd.prog w = .ok 12 w := by kernel_rfl
  rw [hs]
  simp only [Result.andThen, sliced, Int.toNat_natCast]
  rw [if_neg (by omega), show ((i : Int) + 1).toNat - i = 1 by omega]
  simp only [Option.map_some, Addr.add]
  by_cases h0 : i * 12 = 0 <;> simp [h0]
set_option maxRecDepth 100000 in
set_option maxHeartbeats 8000000 in
theorem DiffR_ok (v1 v2 : Value) (a b : List Nod) (w : World) (ha : SliceC maxLen 12 (NodC maxLen) w [v1] a) (hb : SliceC maxLen 12 (NodC maxLen) w [v2] b) (hEA : treeFault a = 0) (hEB : treeFault b = 0) :
    Calls Tryd.prog 10 #[v1, v2] w (RetCE tChg w (diffL a b, 0)) := by
  obtain ⟨i0, hi, hz0, hz1, hz2⟩ := info_parts info_chg
  have HI := Lib.hid (And.intro hi (And.intro hz0 (And.intro hz1 hz2)))
  clear hi hz0 hz1 hz2
  obtain ⟨i1, hi, hz0, hz1, hz2⟩ := info_parts info_node
  have HJ := Lib.hid (And.intro hi (And.intro hz0 (And.intro hz1 hz2)))
  have HSA := Lib.hid ha
  have HSB := Lib.hid hb
  obtain ⟨p1, cp1, rfl, hcl1, hcm1, hr1⟩ := nods_row ha
  obtain ⟨p2, cp2, rfl, hcl2, hcm2, hr2⟩ := nods_row hb
  have HA := Lib.hid hr1
  have HB := Lib.hid hr2
  have hfa := (treeFault_all hEA).1
  have hfb := (treeFault_all hEB).1
  have HDA := Lib.hid (treeFault_dat hEA)
  have HDB := Lib.hid (treeFault_dat hEB)
  have HPA := Lib.hid (fun k (hk : k < a.length) => show (nk a k).path.size ≤ 1048576 from Nat.le_trans (nodFault_size ((treeFault_all hEA).2 k hk)) (by omega))
  have HPB := Lib.hid (fun k (hk : k < b.length) => show (nk b k).path.size ≤ 1048576 from Nat.le_trans (nodFault_size ((treeFault_all hEB).2 k hk)) (by omega))
  have HCA := Lib.hid (fun w (h : SliceC maxLen 12 (NodC maxLen) w [.slice p1 a.length cp1] a) => TreeFault_any _ a w h)
  have HCB := Lib.hid (fun w (h : SliceC maxLen 12 (NodC maxLen) w [.slice p2 b.length cp2] b) => TreeFault_any _ b w h)
  have HOA := Lib.hid (treeFault_ord hEA)
  have HOB := Lib.hid (treeFault_ord hEB)
  rw [hEA] at HCA
  rw [hEB] at HCB
  unfold maxLen at hcm1 hcm2
  clear ha hb hr1 hr2 hEA hEB hi hz0 hz1 hz2
  go_enter Tryd.func10, Tryd.ntmps10
  go_wp2_with fail
  refine (HCA.out _ HSA.out).mono ?_
  rintro e w1 ⟨rfl, hb⟩
  have HB1 := Lib.hid hb
  clear hb
  go_wp2_with fail
  refine (HCB.out _ (nods_below HSB.out HB1.out)).mono ?_
  rintro e w2 ⟨rfl, hb⟩
  have HB2 := Lib.hid (HB1.out.trans (hb.mono HB1.out.size))
  clear hb
  have HP2 := Lib.hid ((Below.refl w2.heap.size w2).alloc (Nat.le_refl _) (.cells #[] 60))
  have HA2 := Lib.hid (HB2.out.alloc HB2.out.size (.cells #[] 60))
  have HE2 := Lib.hid (show OwnNods 60 (w2.alloc (.cells #[] 60)) w.heap.size (.slice (some ⟨w2.heap.size, 0, none⟩) 0 0) [] from ⟨World.ownsRow_made w2 #[] 0 HB2.out.size (by unfold maxLen; omega) rfl, fun x hx => absurd hx (by simp)⟩)
  have HT2 := Lib.hid (nods_below HSA.out HA2.out)
  have HNI2 := Lib.hid (show ∀ x ∈ a, NodIn (w2.alloc (.cells #[] 60)) (.slice (some ⟨w2.heap.size, 0, none⟩) 0 0) x from list_of_nk fun q hq => by
    obtain ⟨b1, o1, _, _, hk1⟩ := HA.out (by omega)
    refine ⟨(hk1 q hq).below HA2.out, fun z hp hz e => ?_⟩
    have h1 := (hk1 q hq).lt z hp hz
    have h2 := HB2.out.size
    simp only [Value.ownBlock, Option.some.injEq] at e
    omega)
  go_upto_region 9 with (at_builtin; refine wpList_app _ rfl (.tmp 26) (.tmp 27) 22 22 rfl _ _ rfl rfl (fun ty => app_src _ 22 22 ty w.heap.size 60 i1 _ 12 144 Tryd.underlying22 HJ.out.1 HJ.out.2.1 HJ.out.2.2.1 HJ.out.2.2.2 rfl (by decide) _ _ ([] : List Nod).length a.length _ _ HE2.out.1 (src_nods Tryd.underlying22 HT2.out) (by unfold maxLen; simp; omega) (by simp; omega) HA2.out.size) ?_; intro v3 w3 ho hg hv; have HZ := Lib.hid (And.intro ho (And.intro hg hv.2)); clear ho hg hv)
  have HO3 := Lib.hid (show OwnNods 60 w3 w.heap.size v3 a from HE2.out.app (m := a) HNI2.out HZ.out.1 HZ.out.2.1 HZ.out.2.2)
  have HB3 := Lib.hid (below_app HA2.out HZ.out.2.1 HE2.out.1 HA2.out.size)
  go_wp2
  go_loopw [9, 11, 31] (fun v9 _ i wr => ∃ (q : Nat) (vv : Value) (m : List Nod), q ≤ b.length ∧ i = .int .i64 q ∧ vv = v9 ∧ Hid (m = a ++ (b.take q).filter (newB a)) ∧ Hid (OwnNods 60 wr w.heap.size vv m) ∧ Hid (Below w.heap.size w wr)) (fun _ _ i _ => b.length - (intOf i).toNat)
  case atStart => exact ⟨0, _, a, by omega, rfl, rfl, Lib.hid (by simp), HO3, HB3⟩
  case round =>
    obtain ⟨q, vv, m, hq, rfl, rfl, HM, HOW, HWB⟩ := hrel
    have hml : m.length ≤ a.length + b.length := by rw [HM.out]; exact filter_take_len a b q
    by_cases hlt : q < b.length
    · obtain ⟨b2, o2, rfl, hc2, hk2⟩ := HB.out (by omega)
      obtain ⟨h0, h1, h2, h3, h4, h5, h6, h7, h8, h9, h10, h11⟩ := (hc2.below HWB.out) q hlt
      have HKX := Lib.hid (hk2 q hlt)
      have HBX := Lib.hid ((Below.refl wr.heap.size wr).alloc (Nat.le_refl _) (boxOf (nk b q)))
      have HFA := Lib.hid (fun (s : ByteArray) => TreeFindN_any _ a s (wr.alloc (boxOf (nk b q))) (nods_below (nods_below HSA.out HWB.out) HBX.out))
      have hfl := treeFind_le a (nk b q).path
      have HKE := Lib.hid (fun (h : newB a (nk b q) = true) => filterTo_keep hlt h)
      have HSK := Lib.hid (fun (h : newB a (nk b q) = false) => filterTo_skip hlt h)
      have HNB := Lib.hid (show newB a (nk b q) = decide (treeFind a (nk b q).path = a.length) from rfl)
      clear hc2 hk2
      generalize nk b q = x at *
      have HXO := Lib.hid (HOW.out.below HBX.out)
      have HAX := Lib.hid (HWB.out.trans (HBX.out.mono HWB.out.size))
      by_cases hf : treeFind a x.path = a.length
      · have HK := Lib.hid (HKE.out (by rw [HNB.out, hf]; simp))
        rw [hf] at hfl
        have HF0 := Lib.hid (HFA.out x.path)
        rw [hf] at HF0
        have hbx := nodAt_box wr x 60
        have HA6 := Lib.hid (HAX.out.alloc HAX.out.size (boxOf x))
        have HO6 := Lib.hid (HXO.out.below ((Below.refl _ _).alloc (Nat.le_refl _) (boxOf x)))
        have HN6 := Lib.hid (nodIn_arg HKX.out HA6.out HOW.out)
        clear hf hbx
        go_wp2_with (first
          | (go_at_call 34; refine HF0.out.mono ?_; rintro e w' ⟨rfl, rfl⟩)
          | (at_builtin; refine wpList_app _ rfl (.tmp 42) (.tmp 44) 22 22 rfl _ _ rfl rfl (fun ty => app_src _ 22 22 ty w.heap.size 60 i1 _ 12 144 Tryd.underlying22 HJ.out.1 HJ.out.2.1 HJ.out.2.2.1 HJ.out.2.2.2 rfl (by decide) _ _ m.length 1 _ _ HO6.out.1 (src_nod_at _ (by simp) _ _ _ Tryd.underlying22 x) (by unfold maxLen; omega) (by omega) HA6.out.size) ?_; intro v6 w6 ho2 hg2 hv2; have HZ2 := Lib.hid (And.intro ho2 (And.intro hg2 hv2.2)); clear ho2 hg2 hv2))
        have HO7 := Lib.hid (HO6.out.app (m := [x]) (fun y hy => by rw [List.mem_singleton.1 hy]; exact HN6.out) HZ2.out.1 HZ2.out.2.1 HZ2.out.2.2)
        have HB7 := Lib.hid (below_app HA6.out HZ2.out.2.1 HO6.out.1 HA6.out.size)
        go_roundw
        case rel => exact ⟨q + 1, _, _, by omega, by go_num, rfl, Lib.hid (by rw [HK.out, HM.out, List.append_assoc]), HO7, HB7⟩
        case measure => simp [intOf]; omega
      · have HK := Lib.hid (HSK.out (by rw [HNB.out]; simpa using hf))
        have HF0 := Lib.hid (HFA.out x.path)
        generalize treeFind a x.path = f at *
        have hd : ((f : Int) == (a.length : Int)) = false := by rw [beq_eq_false_iff_ne]; omega
        clear hf
        go_wp2_with (go_at_call 34; refine HF0.out.mono ?_; rintro e w' ⟨rfl, rfl⟩)
        go_roundw
        case rel => exact ⟨q + 1, _, _, by omega, by go_num, rfl, Lib.hid (by rw [HK.out, HM.out]), HXO, HAX⟩
        case measure => simp [intOf]; omega
    · obtain rfl : q = b.length := by omega
      rw [List.take_length] at HM
      have HMN := Lib.hid (show m = allN a b from HM.out)
      have HDM := Lib.hid (show ∀ i, i < m.length → (nk m i).data.length ≤ 140737488355328 from by rw [HMN.out]; exact list_dat (allN_of (dat_list HDA.out) (dat_list HDB.out)))
      have HPM := Lib.hid (show ∀ i, i < m.length → (nk m i).path.size ≤ 1048576 from by rw [HMN.out]; exact nk_of_list (P := fun x => x.path.size ≤ 1048576) (allN_of (list_of_nk HPA.out) (list_of_nk HPB.out)))
      go_wp2_with fail
      refine (IsortR_any _ m _ (HOW.out.slice (by unfold maxLen; omega)) (by omega) HDM.out HPM.out).mono ?_
      rintro e w5 ⟨v5, c, rfl, ho, hcb, hb⟩
      rw [HMN.out] at hcb
      have HO5 := Lib.hid (ho.mono HWB.out.size)
      have HB5 := Lib.hid (HWB.out.trans (hb.mono HWB.out.size))
      have HC5 := Lib.hid hcb
      have hcl : c.length = m.length := by rw [HMN.out, ← isort_len (allN a b)]; exact bare_len hcb
      obtain ⟨p5, cp5, rfl, hcl5, hcm5, hp5⟩ := own_slice ho rfl
      have HP5 := Lib.hid hp5
      clear ho hb hcb hp5
      go_wp2
      go_loopw [8, 13, 14, 15, 50] (fun v8 _ _ _ i wr => ∃ (q : Nat) (vo : Value) (o : List Chg), q ≤ c.length ∧ i = .int .i64 q ∧ vo = v8 ∧ Hid (RefTo a b c q o) ∧ Hid (OwnChgs 62 wr w5.heap.size vo o) ∧ Hid (Below w5.heap.size w5 wr)) (fun _ _ _ _ i _ => c.length - (intOf i).toNat)
      case atStart => exact ⟨0, _, [], by omega, rfl, rfl, Lib.hid rfl, Lib.hid (OwnChgs.nil _ _ _), Lib.hid (Below.refl _ _)⟩
      case round =>
        obtain ⟨q, vo, o, hq, rfl, rfl, HR, HOW, HW5⟩ := hrel
        have hol := HR.out.len
        have HWB := Lib.hid (HB5.out.trans (HW5.out.mono HB5.out.size))
        by_cases hlt : q < c.length
        · obtain ⟨g5, rfl, hg5⟩ := HP5.out (by omega)
          have HNA := Lib.hid (by have e := (HO5.out.below HW5.out).nodAt hlt; exact e)
          obtain ⟨h0, h1, h2, h3, h4, h5, h6, h7, h8, h9, h10, h11⟩ := HNA.out
          have HBX := Lib.hid ((Below.refl wr.heap.size wr).alloc (Nat.le_refl _) (boxOf (nk c q)))
          have HFA := Lib.hid (TreeFindN_any _ a (nk c q).path (wr.alloc (boxOf (nk c q))) (nods_below (nods_below HSA.out HWB.out) HBX.out))
          have HFB := Lib.hid (TreeFindN_any _ b (nk c q).path (wr.alloc (boxOf (nk c q))) (nods_below (nods_below HSB.out HWB.out) HBX.out))
          have hfla := treeFind_le a (nk c q).path
          have hflb := treeFind_le b (nk c q).path
          have HMEM := Lib.hid (show treeFind b (nk c q).path = b.length → treeFind a (nk c q).path < a.length from fun h => by
            obtain ⟨z, hz, e⟩ := all_mem HC5.out hlt
            rw [← e] at h ⊢
            exact allN_mem hz h)
          have HST := Lib.hid (fun o' ho => HR.out.step hlt o' ho)
          have HG1 := Lib.hid (fun h => chgAt_gone (a := a) (b := b) (s := (nk c q).path) h)
          have HG2 := Lib.hid (fun h h2 => chgAt_new (a := a) (b := b) (s := (nk c q).path) h h2)
          have HG3 := Lib.hid (fun h h2 => chgAt_both (a := a) (b := b) (s := (nk c q).path) h h2)
          generalize chgAt a b (nk c q).path = dd at *
          generalize treeFind a (nk c q).path = i at *
          generalize treeFind b (nk c q).path = j at *
          generalize nk c q = x0 at *
          have hbx := nodAt_box wr x0 60
          go_wp2_with fail
          refine HFA.out.mono ?_
          rintro e w' ⟨rfl, rfl⟩
          go_wp2_with fail
          refine HFB.out.mono ?_
          rintro e w' ⟨rfl, rfl⟩
          go_upto_region 20 with fail
          have HOC := Lib.hid (HOW.out.below HBX.out)
          have HWC := Lib.hid (HW5.out.trans (HBX.out.mono HW5.out.size))
          have HWW := Lib.hid (HB5.out.trans (HWC.out.mono HB5.out.size))
          clear h0 h1 h2 h3 h4 h5 h6 h7 h8 h9 h10 h11 hbx HFA HFB HNA HBX HOW HW5 HWB HR
          generalize wr.alloc (boxOf x0) = wc at *
          have HOW := HOC
          have HWB := HWC
          by_cases hj : j = b.length
          · have hia := HMEM.out hj
            have HD1 := Lib.hid (HG1.out hj)
            obtain ⟨b1, o1, rfl, hc1, hk1⟩ := HA.out (by omega)
            have HXK := Lib.hid ((hk1 i hia).below HWW.out)
            have HXN := Lib.hid ((hc1.below HWW.out) i hia)
            have HF1 := Lib.hid (show ∀ n : Nod, n.bare = (nk a i).bare → [(⟨1, n⟩ : Chg)].map Chg.bare = dd.map Chg.bare from fun n hn => by rw [HD1.out]; simp [Chg.bare, hn])
            subst hj
            clear hc1 hk1
            have hsl := fun W => run_oneN W b1 o1 a.length cp1 i hia hcl1
            have HS1 := Lib.hid (nods_one (cap := cp1) HXK.out HXN.out (by omega) (by unfold maxLen; omega))
            go_wp2_with fail
            refine (CopyRG_any _ [(nk a i)] _ HS1.out (by simp) (by simp) (list_dat (fun z hz => by rw [List.mem_singleton.1 hz]; exact (HDA.out i hia)))).mono ?_
            rintro e w8 ⟨v8, c8, rfl, ho8, hc8, hb8, hf8⟩
            obtain ⟨n8, rfl⟩ : ∃ n8, c8 = [n8] := List.length_eq_one_iff.1 (bare_len hc8)
            obtain ⟨g8, cp8, rfl⟩ := ownsRow_form (n := 0) ho8.1
            have HN8 := Lib.hid (by have e := ho8.nodAt (k := 0) (by simp); rw [Nat.zero_mul] at e; exact e)
            obtain ⟨m0, m1, m2, m3, m4, m5, m6, m7, m8, m9, m10, m11⟩ := HN8.out.zero
            have HC8 := Lib.hid (show n8.bare = (nk a i).bare by simpa using hc8)
            have HW8 := Lib.hid (HWB.out.trans (hb8.mono HWB.out.size))
            have HO8 := Lib.hid (HOW.out.below hb8)
            have HK8 := Lib.hid (show ChgIn w8 vo ⟨1, n8⟩ from ⟨(show i64 1 from by unfold i64; omega), (ho8.2 n8 (by simp)).1, fun q hp hq e => by
              have h1 := hf8 n8 (by simp) q hq
              have h2 := (World.ownsRow.lt HOW.out.1 _ e).2
              omega⟩)
            have HB8 := Lib.hid (show n8.data.length ≤ maxLen by obtain ⟨_, _, _, _, _, h, _⟩ := (ho8.2 n8 (by simp)).1.data; exact h)
            have HA8 := Lib.hid (HW8.out.alloc HW8.out.size (.cells #[.int .i64 1, .string n8.path, .int .i64 n8.kind, .int .i64 n8.same, .string n8.target, .int .i64 n8.mt.mode, .int .i64 n8.mt.uid, .int .i64 n8.mt.gid, .string n8.mt.user, .string n8.mt.group, .int .i64 n8.mt.second, .int .i64 n8.mt.nano, .slice n8.da n8.data.length n8.dcap] 62))
            have HP8 := Lib.hid ((Below.refl w8.heap.size w8).alloc (Nat.le_refl _) (.cells #[.int .i64 1, .string n8.path, .int .i64 n8.kind, .int .i64 n8.same, .string n8.target, .int .i64 n8.mt.mode, .int .i64 n8.mt.uid, .int .i64 n8.mt.gid, .string n8.mt.user, .string n8.mt.group, .int .i64 n8.mt.second, .int .i64 n8.mt.nano, .slice n8.da n8.data.length n8.dcap] 62))
            have HO9 := Lib.hid (HO8.out.below HP8.out)
            clear ho8 hc8 hb8 hf8
            go_wp2_with (at_builtin; refine wpList_app _ rfl (.tmp 67) (.tmp 77) 23 23 rfl _ _ rfl rfl (fun ty => app_src _ 23 23 ty w5.heap.size 62 i0 _ 13 152 Tryd.underlying23 HI.out.1 HI.out.2.1 HI.out.2.2.1 HI.out.2.2.2 rfl (by decide) _ _ o.length 1 _ _ HO9.out.1 (src_chg w8 rfl _ _ _ Tryd.underlying23 1 n8) (by unfold maxLen; omega) (by omega) HA8.out.size) ?_; intro v9 w9 ho2 hg2 hv2; have HZ := Lib.hid (And.intro ho2 (And.intro hg2 hv2.2)); clear ho2 hg2 hv2)
            have HO10 := Lib.hid (HO9.out.app (m := [⟨1, n8⟩]) (fun y hy => by rw [List.mem_singleton.1 hy]; exact HK8.out.below HP8.out) HZ.out.1 HZ.out.2.1 HZ.out.2.2)
            have HB10 := Lib.hid (below_app HA8.out HZ.out.2.1 HO9.out.1 HA8.out.size)
            go_roundw
            case rel => exact ⟨q + 1, _, _, by omega, by go_num, rfl, Lib.hid (HST.out _ (HF1.out n8 HC8.out)), HO10, HB10⟩
            case measure => simp [intOf]; omega
          · have hdj : ((j : Int) == (b.length : Int)) = false := by rw [beq_eq_false_iff_ne]; omega
            have hjb : j < b.length := by omega
            obtain ⟨b2, o2, rfl, hc2, hk2⟩ := HB.out (by omega)
            have HYK := Lib.hid ((hk2 j hjb).below HWW.out)
            have HYN := Lib.hid ((hc2.below HWW.out) j hjb)
            by_cases hi : i = a.length
            · have HD1 := Lib.hid (HG2.out hj hi)
              have HF1 := Lib.hid (show ∀ n : Nod, n.bare = (nk b j).bare → [(⟨2, n⟩ : Chg)].map Chg.bare = dd.map Chg.bare from fun n hn => by rw [HD1.out]; simp [Chg.bare, hn])
              subst hi
              clear hc2 hk2 hj
              have hsl := fun W => run_oneN W b2 o2 b.length cp2 j hjb hcl2
              have HS1 := Lib.hid (nods_one (cap := cp2) HYK.out HYN.out (by omega) (by unfold maxLen; omega))
              go_wp2_with fail
              refine (CopyRG_any _ [(nk b j)] _ HS1.out (by simp) (by simp) (list_dat (fun z hz => by rw [List.mem_singleton.1 hz]; exact (HDB.out j hjb)))).mono ?_
              rintro e w8 ⟨v8, c8, rfl, ho8, hc8, hb8, hf8⟩
              obtain ⟨n8, rfl⟩ : ∃ n8, c8 = [n8] := List.length_eq_one_iff.1 (bare_len hc8)
              obtain ⟨g8, cp8, rfl⟩ := ownsRow_form (n := 0) ho8.1
              have HN8 := Lib.hid (by have e := ho8.nodAt (k := 0) (by simp); rw [Nat.zero_mul] at e; exact e)
              obtain ⟨m0, m1, m2, m3, m4, m5, m6, m7, m8, m9, m10, m11⟩ := HN8.out.zero
              have HC8 := Lib.hid (show n8.bare = (nk b j).bare by simpa using hc8)
              have HW8 := Lib.hid (HWB.out.trans (hb8.mono HWB.out.size))
              have HO8 := Lib.hid (HOW.out.below hb8)
              have HK8 := Lib.hid (show ChgIn w8 vo ⟨2, n8⟩ from ⟨(show i64 2 from by unfold i64; omega), (ho8.2 n8 (by simp)).1, fun q hp hq e => by
                have h1 := hf8 n8 (by simp) q hq
                have h2 := (World.ownsRow.lt HOW.out.1 _ e).2
                omega⟩)
              have HB8 := Lib.hid (show n8.data.length ≤ maxLen by obtain ⟨_, _, _, _, _, h, _⟩ := (ho8.2 n8 (by simp)).1.data; exact h)
              have HA8 := Lib.hid (HW8.out.alloc HW8.out.size (.cells #[.int .i64 2, .string n8.path, .int .i64 n8.kind, .int .i64 n8.same, .string n8.target, .int .i64 n8.mt.mode, .int .i64 n8.mt.uid, .int .i64 n8.mt.gid, .string n8.mt.user, .string n8.mt.group, .int .i64 n8.mt.second, .int .i64 n8.mt.nano, .slice n8.da n8.data.length n8.dcap] 62))
              have HP8 := Lib.hid ((Below.refl w8.heap.size w8).alloc (Nat.le_refl _) (.cells #[.int .i64 2, .string n8.path, .int .i64 n8.kind, .int .i64 n8.same, .string n8.target, .int .i64 n8.mt.mode, .int .i64 n8.mt.uid, .int .i64 n8.mt.gid, .string n8.mt.user, .string n8.mt.group, .int .i64 n8.mt.second, .int .i64 n8.mt.nano, .slice n8.da n8.data.length n8.dcap] 62))
              have HO9 := Lib.hid (HO8.out.below HP8.out)
              clear ho8 hc8 hb8 hf8
              go_wp2_with (at_builtin; refine wpList_app _ rfl (.tmp 84) (.tmp 94) 23 23 rfl _ _ rfl rfl (fun ty => app_src _ 23 23 ty w5.heap.size 62 i0 _ 13 152 Tryd.underlying23 HI.out.1 HI.out.2.1 HI.out.2.2.1 HI.out.2.2.2 rfl (by decide) _ _ o.length 1 _ _ HO9.out.1 (src_chg w8 rfl _ _ _ Tryd.underlying23 2 n8) (by unfold maxLen; omega) (by omega) HA8.out.size) ?_; intro v9 w9 ho2 hg2 hv2; have HZ := Lib.hid (And.intro ho2 (And.intro hg2 hv2.2)); clear ho2 hg2 hv2)
              have HO10 := Lib.hid (HO9.out.app (m := [⟨2, n8⟩]) (fun y hy => by rw [List.mem_singleton.1 hy]; exact HK8.out.below HP8.out) HZ.out.1 HZ.out.2.1 HZ.out.2.2)
              have HB10 := Lib.hid (below_app HA8.out HZ.out.2.1 HO9.out.1 HA8.out.size)
              go_roundw
              case rel => exact ⟨q + 1, _, _, by omega, by go_num, rfl, Lib.hid (HST.out _ (HF1.out n8 HC8.out)), HO10, HB10⟩
              case measure => simp [intOf]; omega
            · have hdi : ((i : Int) == (a.length : Int)) = false := by rw [beq_eq_false_iff_ne]; omega
              have hia : i < a.length := by omega
              have HD1 := Lib.hid (HG3.out hj hi)
              obtain ⟨b1, o1, rfl, hc1, hk1⟩ := HA.out (by omega)
              have HX1 := Lib.hid ((hk1 i hia).below HWW.out)
              have HXA1 := Lib.hid ((hc1.below HWW.out) i hia)
              have HY1 := HYK
              have HYA1 := HYN
              have HSY := Lib.hid (nods_one (cap := cp2) HYK.out HYN.out (by omega) (by unfold maxLen; omega))
              have hyd := HDB.out j hjb
              clear hc1 hk1 hc2 hk2 hi hj
              generalize nk a i = x at *
              generalize nk b j = y at *
              obtain ⟨h0, h1, h2, h3, h4, h5, h6, h7, h8, h9, h10, h11⟩ := HXA1.out
              obtain ⟨g0, g1, g2, g3, g4, g5', g6, g7, g8, g9, g10, g11⟩ := HYA1.out
              have HS0 := Lib.hid (fun W (hB : Below wc.heap.size wc W) => show Calls Tryd.prog 36 #[x.val, y.val] W (fun e w' => e = .returned (.bool (sameB x y)) ∧ w'.cell? ⟨b1, o1 + i * 12, none⟩ = some (.string x.path) ∧ w'.cell? ⟨b1, o1 + i * 12 + 1, none⟩ = some (.int .i64 x.kind) ∧ w'.cell? ⟨b1, o1 + i * 12 + 2, none⟩ = some (.int .i64 x.same) ∧ w'.cell? ⟨b1, o1 + i * 12 + 3, none⟩ = some (.string x.target) ∧ w'.cell? ⟨b1, o1 + i * 12 + 4, none⟩ = some (.int .i64 x.mt.mode) ∧ w'.cell? ⟨b1, o1 + i * 12 + 5, none⟩ = some (.int .i64 x.mt.uid) ∧ w'.cell? ⟨b1, o1 + i * 12 + 6, none⟩ = some (.int .i64 x.mt.gid) ∧ w'.cell? ⟨b1, o1 + i * 12 + 7, none⟩ = some (.string x.mt.user) ∧ w'.cell? ⟨b1, o1 + i * 12 + 8, none⟩ = some (.string x.mt.group) ∧ w'.cell? ⟨b1, o1 + i * 12 + 9, none⟩ = some (.int .i64 x.mt.second) ∧ w'.cell? ⟨b1, o1 + i * 12 + 10, none⟩ = some (.int .i64 x.mt.nano) ∧ w'.cell? ⟨b1, o1 + i * 12 + 11, none⟩ = some (.slice x.da x.data.length x.dcap) ∧ w'.cell? ⟨b2, o2 + j * 12, none⟩ = some (.string y.path) ∧ w'.cell? ⟨b2, o2 + j * 12 + 1, none⟩ = some (.int .i64 y.kind) ∧ w'.cell? ⟨b2, o2 + j * 12 + 2, none⟩ = some (.int .i64 y.same) ∧ w'.cell? ⟨b2, o2 + j * 12 + 3, none⟩ = some (.string y.target) ∧ w'.cell? ⟨b2, o2 + j * 12 + 4, none⟩ = some (.int .i64 y.mt.mode) ∧ w'.cell? ⟨b2, o2 + j * 12 + 5, none⟩ = some (.int .i64 y.mt.uid) ∧ w'.cell? ⟨b2, o2 + j * 12 + 6, none⟩ = some (.int .i64 y.mt.gid) ∧ w'.cell? ⟨b2, o2 + j * 12 + 7, none⟩ = some (.string y.mt.user) ∧ w'.cell? ⟨b2, o2 + j * 12 + 8, none⟩ = some (.string y.mt.group) ∧ w'.cell? ⟨b2, o2 + j * 12 + 9, none⟩ = some (.int .i64 y.mt.second) ∧ w'.cell? ⟨b2, o2 + j * 12 + 10, none⟩ = some (.int .i64 y.mt.nano) ∧ w'.cell? ⟨b2, o2 + j * 12 + 11, none⟩ = some (.slice y.da y.data.length y.dcap) ∧ Below wc.heap.size wc w') from
                (SameR_any x y W (HX1.out.below hB).data (HY1.out.below hB).data).mono fun e w' hh => by
                  have hb2 := hB.trans (hh.2.mono hB.size)
                  obtain ⟨a0, a1, a2, a3, a4, a5, a6, a7, a8, a9, a10, a11⟩ := HXA1.out.below hb2
                  obtain ⟨e0, e1, e2, e3, e4, e5, e6, e7, e8, e9, e10, e11⟩ := HYA1.out.below hb2
                  exact ⟨hh.1, a0, a1, a2, a3, a4, a5, a6, a7, a8, a9, a10, a11, e0, e1, e2, e3, e4, e5, e6, e7, e8, e9, e10, e11, hb2⟩)
              have hbw := (Below.refl wc.heap.size wc).drew
              go_upto_region 24 with fail
              go_cut [96] from 97 to 119 (fun u w5 => u = .bool (othB x y) ∧ Hid (Below wc.heap.size wc w5))
              case first =>
                cases hs : sameB x y with
                | false =>
                  have HO3 := Lib.hid (othB_f hs)
                  have HS := HS0
                  rw [hs] at HS
                  clear hs HS0
                  refine wp_region_held_drew (S := fun w' => w'.cell? ⟨b1, o1 + i * 12, none⟩ = some (.string x.path) ∧ w'.cell? ⟨b1, o1 + i * 12 + 1, none⟩ = some (.int .i64 x.kind) ∧ w'.cell? ⟨b1, o1 + i * 12 + 2, none⟩ = some (.int .i64 x.same) ∧ w'.cell? ⟨b1, o1 + i * 12 + 3, none⟩ = some (.string x.target) ∧ w'.cell? ⟨b1, o1 + i * 12 + 4, none⟩ = some (.int .i64 x.mt.mode) ∧ w'.cell? ⟨b1, o1 + i * 12 + 5, none⟩ = some (.int .i64 x.mt.uid) ∧ w'.cell? ⟨b1, o1 + i * 12 + 6, none⟩ = some (.int .i64 x.mt.gid) ∧ w'.cell? ⟨b1, o1 + i * 12 + 7, none⟩ = some (.string x.mt.user) ∧ w'.cell? ⟨b1, o1 + i * 12 + 8, none⟩ = some (.string x.mt.group) ∧ w'.cell? ⟨b1, o1 + i * 12 + 9, none⟩ = some (.int .i64 x.mt.second) ∧ w'.cell? ⟨b1, o1 + i * 12 + 10, none⟩ = some (.int .i64 x.mt.nano) ∧ w'.cell? ⟨b1, o1 + i * 12 + 11, none⟩ = some (.slice x.da x.data.length x.dcap) ∧ w'.cell? ⟨b2, o2 + j * 12, none⟩ = some (.string y.path) ∧ w'.cell? ⟨b2, o2 + j * 12 + 1, none⟩ = some (.int .i64 y.kind) ∧ w'.cell? ⟨b2, o2 + j * 12 + 2, none⟩ = some (.int .i64 y.same) ∧ w'.cell? ⟨b2, o2 + j * 12 + 3, none⟩ = some (.string y.target) ∧ w'.cell? ⟨b2, o2 + j * 12 + 4, none⟩ = some (.int .i64 y.mt.mode) ∧ w'.cell? ⟨b2, o2 + j * 12 + 5, none⟩ = some (.int .i64 y.mt.uid) ∧ w'.cell? ⟨b2, o2 + j * 12 + 6, none⟩ = some (.int .i64 y.mt.gid) ∧ w'.cell? ⟨b2, o2 + j * 12 + 7, none⟩ = some (.string y.mt.user) ∧ w'.cell? ⟨b2, o2 + j * 12 + 8, none⟩ = some (.string y.mt.group) ∧ w'.cell? ⟨b2, o2 + j * 12 + 9, none⟩ = some (.int .i64 y.mt.second) ∧ w'.cell? ⟨b2, o2 + j * 12 + 10, none⟩ = some (.int .i64 y.mt.nano) ∧ w'.cell? ⟨b2, o2 + j * 12 + 11, none⟩ = some (.slice y.da y.data.length y.dcap) ∧ Below wc.heap.size wc w') (by kernel_rfl) (by go_keep) (fun hHeld => ?_)
                  refine wpAnyH_take (i := 0) (v := _) rfl (by kernel_rfl) (by kernel_rfl) (by kernel_rfl) (fun _ _ _ h => h) (Or.inl ⟨by rfl, fun w5 hSw => (by (try dsimp only at hSw); go_simp; try with_reducible rfl)⟩) hHeld ?_
                  try simp only [List.getElem_toArray, List.getElem_cons_succ, List.getElem_cons_zero, Act.put, List.setIfInBounds_toArray, List.set_cons_zero, List.set_cons_succ]
                  refine wpAnyH_take (i := 1) (v := _) rfl (by kernel_rfl) (by kernel_rfl) (by kernel_rfl) (fun _ _ _ h => h) (Or.inl ⟨by rfl, fun w5 hSw => (by (try dsimp only at hSw); go_simp; try with_reducible rfl)⟩) hHeld ?_
                  try simp only [List.getElem_toArray, List.getElem_cons_succ, List.getElem_cons_zero, Act.put, List.setIfInBounds_toArray, List.set_cons_zero, List.set_cons_succ]
                  refine wpAnyH_take (i := 2) (v := _) rfl (by kernel_rfl) (by kernel_rfl) (by kernel_rfl) (fun _ _ _ h => h) (Or.inl ⟨by rfl, fun w5 hSw => (by (try dsimp only at hSw); go_simp; try with_reducible rfl)⟩) hHeld ?_
                  try simp only [List.getElem_toArray, List.getElem_cons_succ, List.getElem_cons_zero, Act.put, List.setIfInBounds_toArray, List.set_cons_zero, List.set_cons_succ]
                  refine wpAnyH_take (i := 3) (v := _) rfl (by kernel_rfl) (by kernel_rfl) (by kernel_rfl) (fun _ _ _ h => h) (Or.inl ⟨by rfl, fun w5 hSw => (by (try dsimp only at hSw); go_simp; try with_reducible rfl)⟩) hHeld ?_
                  try simp only [List.getElem_toArray, List.getElem_cons_succ, List.getElem_cons_zero, Act.put, List.setIfInBounds_toArray, List.set_cons_zero, List.set_cons_succ]
                  refine wpAnyH_take (i := 4) (v := _) rfl (by kernel_rfl) (by kernel_rfl) (by kernel_rfl) (fun _ _ _ h => h) (Or.inl ⟨by rfl, fun w5 hSw => (by (try dsimp only at hSw); go_simp; try with_reducible rfl)⟩) hHeld ?_
                  try simp only [List.getElem_toArray, List.getElem_cons_succ, List.getElem_cons_zero, Act.put, List.setIfInBounds_toArray, List.set_cons_zero, List.set_cons_succ]
                  refine wpAnyH_take (i := 5) (v := _) rfl (by kernel_rfl) (by kernel_rfl) (by kernel_rfl) (fun _ _ _ h => h) (Or.inl ⟨by rfl, fun w5 hSw => (by (try dsimp only at hSw); go_simp; try with_reducible rfl)⟩) hHeld ?_
                  try simp only [List.getElem_toArray, List.getElem_cons_succ, List.getElem_cons_zero, Act.put, List.setIfInBounds_toArray, List.set_cons_zero, List.set_cons_succ]
                  refine wpAnyH_take (i := 6) (v := _) rfl (by kernel_rfl) (by kernel_rfl) (by kernel_rfl) (fun _ _ _ h => h) (Or.inl ⟨by rfl, fun w5 hSw => (by (try dsimp only at hSw); go_simp; try with_reducible rfl)⟩) hHeld ?_
                  try simp only [List.getElem_toArray, List.getElem_cons_succ, List.getElem_cons_zero, Act.put, List.setIfInBounds_toArray, List.set_cons_zero, List.set_cons_succ]
                  refine wpAnyH_take (i := 7) (v := _) rfl (by kernel_rfl) (by kernel_rfl) (by kernel_rfl) (fun _ _ _ h => h) (Or.inl ⟨by rfl, fun w5 hSw => (by (try dsimp only at hSw); go_simp; try with_reducible rfl)⟩) hHeld ?_
                  try simp only [List.getElem_toArray, List.getElem_cons_succ, List.getElem_cons_zero, Act.put, List.setIfInBounds_toArray, List.set_cons_zero, List.set_cons_succ]
                  refine wpAnyH_ready (rs := [8]) (by kernel_rfl) (by simp) ?_
                  refine AllReadyH.cons rfl (fun K5 hK5 => ?_) AllReadyH.nil
                  rw [if_pos (by rfl)]
                  go_wp2_with (go_at_call 36; refine (HS.out _ ?_).mono ?_; (simp [*]); rintro e w3 ⟨rfl, r0, r1, r2, r3, r4, r5, r6, r7, r8, r9, r10, r11, r12, r13, r14, r15, r16, r17, r18, r19, r20, r21, r22, r23, hb3⟩)
                  refine hK5.out _ _ (by go_keep) (fun hHeld => ?_)
                  clear hK5 K5
                  try simp only [List.getElem_toArray, List.getElem_cons_succ, List.getElem_cons_zero, Act.put, List.setIfInBounds_toArray, List.set_cons_zero, List.set_cons_succ]
                  refine wpAnyH_take (i := 9) (v := _) rfl (by kernel_rfl) (by kernel_rfl) (by kernel_rfl) (fun _ _ _ h => h) (Or.inl ⟨by rfl, fun w5 hSw => (by (try dsimp only at hSw); go_simp; try with_reducible rfl)⟩) hHeld ?_
                  try simp only [List.getElem_toArray, List.getElem_cons_succ, List.getElem_cons_zero, Act.put, List.setIfInBounds_toArray, List.set_cons_zero, List.set_cons_succ]
                  refine wpAnyH_take (i := 10) (v := _) rfl (by kernel_rfl) (by kernel_rfl) (by kernel_rfl) (fun _ _ _ h => h) (Or.inl ⟨by rfl, fun w5 hSw => (by (try dsimp only at hSw); go_simp; try with_reducible rfl)⟩) hHeld ?_
                  try simp only [List.getElem_toArray, List.getElem_cons_succ, List.getElem_cons_zero, Act.put, List.setIfInBounds_toArray, List.set_cons_zero, List.set_cons_succ]
                  refine wpAnyH_take (i := 11) (v := undef) rfl (by kernel_rfl) (by kernel_rfl) (by kernel_rfl) (fun _ _ _ h => h) (Or.inr ⟨by rfl, rfl⟩) hHeld ?_
                  try simp only [List.getElem_toArray, List.getElem_cons_succ, List.getElem_cons_zero, Act.put, List.setIfInBounds_toArray, List.set_cons_zero, List.set_cons_succ]
                  refine wpAnyH_take (i := 12) (v := undef) rfl (by kernel_rfl) (by kernel_rfl) (by kernel_rfl) (fun _ _ _ h => h) (Or.inr ⟨by rfl, rfl⟩) hHeld ?_
                  try simp only [List.getElem_toArray, List.getElem_cons_succ, List.getElem_cons_zero, Act.put, List.setIfInBounds_toArray, List.set_cons_zero, List.set_cons_succ]
                  refine wpAnyH_take (i := 13) (v := undef) rfl (by kernel_rfl) (by kernel_rfl) (by kernel_rfl) (fun _ _ _ h => h) (Or.inr ⟨by rfl, rfl⟩) hHeld ?_
                  try simp only [List.getElem_toArray, List.getElem_cons_succ, List.getElem_cons_zero, Act.put, List.setIfInBounds_toArray, List.set_cons_zero, List.set_cons_succ]
                  refine wpAnyH_take (i := 14) (v := undef) rfl (by kernel_rfl) (by kernel_rfl) (by kernel_rfl) (fun _ _ _ h => h) (Or.inr ⟨by rfl, rfl⟩) hHeld ?_
                  try simp only [List.getElem_toArray, List.getElem_cons_succ, List.getElem_cons_zero, Act.put, List.setIfInBounds_toArray, List.set_cons_zero, List.set_cons_succ]
                  refine wpAnyH_take (i := 15) (v := undef) rfl (by kernel_rfl) (by kernel_rfl) (by kernel_rfl) (fun _ _ _ h => h) (Or.inr ⟨by rfl, rfl⟩) hHeld ?_
                  try simp only [List.getElem_toArray, List.getElem_cons_succ, List.getElem_cons_zero, Act.put, List.setIfInBounds_toArray, List.set_cons_zero, List.set_cons_succ]
                  refine wpAnyH_take (i := 16) (v := undef) rfl (by kernel_rfl) (by kernel_rfl) (by kernel_rfl) (fun _ _ _ h => h) (Or.inr ⟨by rfl, rfl⟩) hHeld ?_
                  try simp only [List.getElem_toArray, List.getElem_cons_succ, List.getElem_cons_zero, Act.put, List.setIfInBounds_toArray, List.set_cons_zero, List.set_cons_succ]
                  refine wpAnyH_take (i := 17) (v := undef) rfl (by kernel_rfl) (by kernel_rfl) (by kernel_rfl) (fun _ _ _ h => h) (Or.inr ⟨by rfl, rfl⟩) hHeld ?_
                  try simp only [List.getElem_toArray, List.getElem_cons_succ, List.getElem_cons_zero, Act.put, List.setIfInBounds_toArray, List.set_cons_zero, List.set_cons_succ]
                  refine wpAnyH_take (i := 18) (v := undef) rfl (by kernel_rfl) (by kernel_rfl) (by kernel_rfl) (fun _ _ _ h => h) (Or.inr ⟨by rfl, rfl⟩) hHeld ?_
                  try simp only [List.getElem_toArray, List.getElem_cons_succ, List.getElem_cons_zero, Act.put, List.setIfInBounds_toArray, List.set_cons_zero, List.set_cons_succ]
                  refine wpAnyH_take (i := 19) (v := undef) rfl (by kernel_rfl) (by kernel_rfl) (by kernel_rfl) (fun _ _ _ h => h) (Or.inr ⟨by rfl, rfl⟩) hHeld ?_
                  try simp only [List.getElem_toArray, List.getElem_cons_succ, List.getElem_cons_zero, Act.put, List.setIfInBounds_toArray, List.set_cons_zero, List.set_cons_succ]
                  refine wpAnyH_take (i := 20) (v := undef) rfl (by kernel_rfl) (by kernel_rfl) (by kernel_rfl) (fun _ _ _ h => h) (Or.inr ⟨by rfl, rfl⟩) hHeld ?_
                  try simp only [List.getElem_toArray, List.getElem_cons_succ, List.getElem_cons_zero, Act.put, List.setIfInBounds_toArray, List.set_cons_zero, List.set_cons_succ]
                  refine wpAnyH_take (i := 21) (v := undef) rfl (by kernel_rfl) (by kernel_rfl) (by kernel_rfl) (fun _ _ _ h => h) (Or.inr ⟨by rfl, rfl⟩) hHeld ?_
                  try simp only [List.getElem_toArray, List.getElem_cons_succ, List.getElem_cons_zero, Act.put, List.setIfInBounds_toArray, List.set_cons_zero, List.set_cons_succ]
                  refine wpAnyH_take (i := 22) (v := _) rfl (by kernel_rfl) (by kernel_rfl) (by kernel_rfl) (fun _ _ _ h => h) (Or.inl ⟨by rfl, fun w5 hSw => (by (try dsimp only at hSw); go_simp; try with_reducible rfl)⟩) hHeld ?_
                  try simp only [List.getElem_toArray, List.getElem_cons_succ, List.getElem_cons_zero, Act.put, List.setIfInBounds_toArray, List.set_cons_zero, List.set_cons_succ]
                  refine wpAnyH_take (i := 23) (v := _) rfl (by kernel_rfl) (by kernel_rfl) (by kernel_rfl) (fun _ _ _ h => h) (Or.inl ⟨by rfl, fun w5 hSw => (by (try dsimp only at hSw); go_simp; try with_reducible rfl)⟩) hHeld ?_
                  try simp only [List.getElem_toArray, List.getElem_cons_succ, List.getElem_cons_zero, Act.put, List.setIfInBounds_toArray, List.set_cons_zero, List.set_cons_succ]
                  refine wpAnyH_done (by kernel_rfl) ?_ _
                  go_wp2_with fail
                  go_meet
                  case rel => exact ⟨by rw [HO3.out], Lib.hid hb3⟩
                | true =>
                  have HS := HS0
                  rw [hs] at HS
                  by_cases hn : x.same = y.same
                  · have HO3 := Lib.hid (othB_s hs hn)
                    have hq : (x.same != y.same) = false := by rw [hn]; simp
                    clear hs HS0 hn
                    go_region_held3 (fun w' => w'.cell? ⟨b1, o1 + i * 12, none⟩ = some (.string x.path) ∧ w'.cell? ⟨b1, o1 + i * 12 + 1, none⟩ = some (.int .i64 x.kind) ∧ w'.cell? ⟨b1, o1 + i * 12 + 2, none⟩ = some (.int .i64 x.same) ∧ w'.cell? ⟨b1, o1 + i * 12 + 3, none⟩ = some (.string x.target) ∧ w'.cell? ⟨b1, o1 + i * 12 + 4, none⟩ = some (.int .i64 x.mt.mode) ∧ w'.cell? ⟨b1, o1 + i * 12 + 5, none⟩ = some (.int .i64 x.mt.uid) ∧ w'.cell? ⟨b1, o1 + i * 12 + 6, none⟩ = some (.int .i64 x.mt.gid) ∧ w'.cell? ⟨b1, o1 + i * 12 + 7, none⟩ = some (.string x.mt.user) ∧ w'.cell? ⟨b1, o1 + i * 12 + 8, none⟩ = some (.string x.mt.group) ∧ w'.cell? ⟨b1, o1 + i * 12 + 9, none⟩ = some (.int .i64 x.mt.second) ∧ w'.cell? ⟨b1, o1 + i * 12 + 10, none⟩ = some (.int .i64 x.mt.nano) ∧ w'.cell? ⟨b1, o1 + i * 12 + 11, none⟩ = some (.slice x.da x.data.length x.dcap) ∧ w'.cell? ⟨b2, o2 + j * 12, none⟩ = some (.string y.path) ∧ w'.cell? ⟨b2, o2 + j * 12 + 1, none⟩ = some (.int .i64 y.kind) ∧ w'.cell? ⟨b2, o2 + j * 12 + 2, none⟩ = some (.int .i64 y.same) ∧ w'.cell? ⟨b2, o2 + j * 12 + 3, none⟩ = some (.string y.target) ∧ w'.cell? ⟨b2, o2 + j * 12 + 4, none⟩ = some (.int .i64 y.mt.mode) ∧ w'.cell? ⟨b2, o2 + j * 12 + 5, none⟩ = some (.int .i64 y.mt.uid) ∧ w'.cell? ⟨b2, o2 + j * 12 + 6, none⟩ = some (.int .i64 y.mt.gid) ∧ w'.cell? ⟨b2, o2 + j * 12 + 7, none⟩ = some (.string y.mt.user) ∧ w'.cell? ⟨b2, o2 + j * 12 + 8, none⟩ = some (.string y.mt.group) ∧ w'.cell? ⟨b2, o2 + j * 12 + 9, none⟩ = some (.int .i64 y.mt.second) ∧ w'.cell? ⟨b2, o2 + j * 12 + 10, none⟩ = some (.int .i64 y.mt.nano) ∧ w'.cell? ⟨b2, o2 + j * 12 + 11, none⟩ = some (.slice y.da y.data.length y.dcap) ∧ Below wc.heap.size wc w') (go_keep)
                      (first | (go_at_call 36; refine (HS.out _ ?_).mono ?_; (simp [*]); rintro e w3 ⟨rfl, r0, r1, r2, r3, r4, r5, r6, r7, r8, r9, r10, r11, r12, r13, r14, r15, r16, r17, r18, r19, r20, r21, r22, r23, hb3⟩))
                    go_wp2_with fail
                    go_meet
                    case rel => exact ⟨by rw [HO3.out], Lib.hid hb3⟩
                  · have HO3 := Lib.hid (othB_n hn)
                    have hq : (x.same != y.same) = true := by rw [bne_iff_ne]; exact hn
                    clear hs HS0 hn
                    go_region_held3 (fun w' => w'.cell? ⟨b1, o1 + i * 12, none⟩ = some (.string x.path) ∧ w'.cell? ⟨b1, o1 + i * 12 + 1, none⟩ = some (.int .i64 x.kind) ∧ w'.cell? ⟨b1, o1 + i * 12 + 2, none⟩ = some (.int .i64 x.same) ∧ w'.cell? ⟨b1, o1 + i * 12 + 3, none⟩ = some (.string x.target) ∧ w'.cell? ⟨b1, o1 + i * 12 + 4, none⟩ = some (.int .i64 x.mt.mode) ∧ w'.cell? ⟨b1, o1 + i * 12 + 5, none⟩ = some (.int .i64 x.mt.uid) ∧ w'.cell? ⟨b1, o1 + i * 12 + 6, none⟩ = some (.int .i64 x.mt.gid) ∧ w'.cell? ⟨b1, o1 + i * 12 + 7, none⟩ = some (.string x.mt.user) ∧ w'.cell? ⟨b1, o1 + i * 12 + 8, none⟩ = some (.string x.mt.group) ∧ w'.cell? ⟨b1, o1 + i * 12 + 9, none⟩ = some (.int .i64 x.mt.second) ∧ w'.cell? ⟨b1, o1 + i * 12 + 10, none⟩ = some (.int .i64 x.mt.nano) ∧ w'.cell? ⟨b1, o1 + i * 12 + 11, none⟩ = some (.slice x.da x.data.length x.dcap) ∧ w'.cell? ⟨b2, o2 + j * 12, none⟩ = some (.string y.path) ∧ w'.cell? ⟨b2, o2 + j * 12 + 1, none⟩ = some (.int .i64 y.kind) ∧ w'.cell? ⟨b2, o2 + j * 12 + 2, none⟩ = some (.int .i64 y.same) ∧ w'.cell? ⟨b2, o2 + j * 12 + 3, none⟩ = some (.string y.target) ∧ w'.cell? ⟨b2, o2 + j * 12 + 4, none⟩ = some (.int .i64 y.mt.mode) ∧ w'.cell? ⟨b2, o2 + j * 12 + 5, none⟩ = some (.int .i64 y.mt.uid) ∧ w'.cell? ⟨b2, o2 + j * 12 + 6, none⟩ = some (.int .i64 y.mt.gid) ∧ w'.cell? ⟨b2, o2 + j * 12 + 7, none⟩ = some (.string y.mt.user) ∧ w'.cell? ⟨b2, o2 + j * 12 + 8, none⟩ = some (.string y.mt.group) ∧ w'.cell? ⟨b2, o2 + j * 12 + 9, none⟩ = some (.int .i64 y.mt.second) ∧ w'.cell? ⟨b2, o2 + j * 12 + 10, none⟩ = some (.int .i64 y.mt.nano) ∧ w'.cell? ⟨b2, o2 + j * 12 + 11, none⟩ = some (.slice y.da y.data.length y.dcap) ∧ Below wc.heap.size wc w') (go_keep)
                      (first | (go_at_call 36; refine (HS.out _ ?_).mono ?_; (simp [*]); rintro e w3 ⟨rfl, r0, r1, r2, r3, r4, r5, r6, r7, r8, r9, r10, r11, r12, r13, r14, r15, r16, r17, r18, r19, r20, r21, r22, r23, hb3⟩))
                    go_wp2_with fail
                    go_meet
                    case rel => exact ⟨by rw [HO3.out], Lib.hid hb3⟩
              case rest =>
                obtain ⟨rfl, HB9⟩ := hcut
                clear HS0 hbw h0 h1 h2 h3 h4 h5 h6 h7 h8 h9 h10 h11 g0 g1 g2 g3 g4 g5' g6 g7 g8 g9 g10 g11 HOW HWB
                have HOW := Lib.hid (HOC.out.below HB9.out)
                have HWB := Lib.hid (HWC.out.trans (HB9.out.mono HWC.out.size))
                cases ho : othB x y with
                | true =>
                  have HF1 := Lib.hid (show ∀ n : Nod, n.bare = y.bare → [(⟨3, n⟩ : Chg)].map Chg.bare = dd.map Chg.bare from fun n hn => by rw [HD1.out]; exact othN_bare hn (othB_iff ho))
                  clear ho
                  have hsl := fun W => run_oneN W b2 o2 b.length cp2 j hjb hcl2
                  have HS1 := Lib.hid (nods_below HSY.out HB9.out)
                  go_wp2_with fail
                  refine (CopyRG_any _ [y] _ HS1.out (by simp) (by simp) (list_dat (fun z hz => by rw [List.mem_singleton.1 hz]; exact hyd))).mono ?_
                  rintro e w8 ⟨v8, c8, rfl, ho8, hc8, hb8, hf8⟩
                  obtain ⟨n8, rfl⟩ : ∃ n8, c8 = [n8] := List.length_eq_one_iff.1 (bare_len hc8)
                  obtain ⟨g8, cp8, rfl⟩ := ownsRow_form (n := 0) ho8.1
                  have HN8 := Lib.hid (by have e := ho8.nodAt (k := 0) (by simp); rw [Nat.zero_mul] at e; exact e)
                  obtain ⟨m0, m1, m2, m3, m4, m5, m6, m7, m8, m9, m10, m11⟩ := HN8.out.zero
                  have HC8 := Lib.hid (show n8.bare = y.bare by simpa using hc8)
                  have HW8 := Lib.hid (HWB.out.trans (hb8.mono HWB.out.size))
                  have HO8 := Lib.hid (HOW.out.below hb8)
                  have HK8 := Lib.hid (show ChgIn w8 vo ⟨3, n8⟩ from ⟨(show i64 3 from by unfold i64; omega), (ho8.2 n8 (by simp)).1, fun q hp hq e => by
                    have h1 := hf8 n8 (by simp) q hq
                    have h2 := (World.ownsRow.lt HOW.out.1 _ e).2
                    omega⟩)
                  have HB8 := Lib.hid (show n8.data.length ≤ maxLen by obtain ⟨_, _, _, _, _, h, _⟩ := (ho8.2 n8 (by simp)).1.data; exact h)
                  have HA8 := Lib.hid (HW8.out.alloc HW8.out.size (.cells #[.int .i64 3, .string n8.path, .int .i64 n8.kind, .int .i64 n8.same, .string n8.target, .int .i64 n8.mt.mode, .int .i64 n8.mt.uid, .int .i64 n8.mt.gid, .string n8.mt.user, .string n8.mt.group, .int .i64 n8.mt.second, .int .i64 n8.mt.nano, .slice n8.da n8.data.length n8.dcap] 62))
                  have HP8 := Lib.hid ((Below.refl w8.heap.size w8).alloc (Nat.le_refl _) (.cells #[.int .i64 3, .string n8.path, .int .i64 n8.kind, .int .i64 n8.same, .string n8.target, .int .i64 n8.mt.mode, .int .i64 n8.mt.uid, .int .i64 n8.mt.gid, .string n8.mt.user, .string n8.mt.group, .int .i64 n8.mt.second, .int .i64 n8.mt.nano, .slice n8.da n8.data.length n8.dcap] 62))
                  have HO9 := Lib.hid (HO8.out.below HP8.out)
                  clear ho8 hc8 hb8 hf8
                  go_wp2_with (at_builtin; refine wpList_app _ rfl (.tmp 120) (.tmp 130) 23 23 rfl _ _ rfl rfl (fun ty => app_src _ 23 23 ty w5.heap.size 62 i0 _ 13 152 Tryd.underlying23 HI.out.1 HI.out.2.1 HI.out.2.2.1 HI.out.2.2.2 rfl (by decide) _ _ o.length 1 _ _ HO9.out.1 (src_chg w8 rfl _ _ _ Tryd.underlying23 3 n8) (by unfold maxLen; omega) (by omega) HA8.out.size) ?_; intro v9 w9 ho2 hg2 hv2; have HZ := Lib.hid (And.intro ho2 (And.intro hg2 hv2.2)); clear ho2 hg2 hv2)
                  have HO10 := Lib.hid (HO9.out.app (m := [⟨3, n8⟩]) (fun y hy => by rw [List.mem_singleton.1 hy]; exact HK8.out.below HP8.out) HZ.out.1 HZ.out.2.1 HZ.out.2.2)
                  have HB10 := Lib.hid (below_app HA8.out HZ.out.2.1 HO9.out.1 HA8.out.size)
                  go_roundw
                  case rel => exact ⟨q + 1, _, _, by omega, by go_num, rfl, Lib.hid (HST.out _ (HF1.out n8 HC8.out)), HO10, HB10⟩
                  case measure => simp [intOf]; omega
                | false =>
                  have HF1 := Lib.hid (show ([] : List Chg).map Chg.bare = dd.map Chg.bare by rw [HD1.out, othN_same (othB_no ho)])
                  clear ho
                  go_wp2
                  go_roundw
                  case rel => exact ⟨q + 1, _, o, by omega, by go_num, rfl, Lib.hid (by have e := HST.out [] HF1.out; simpa using e), HOW, HWB⟩
                  case measure => simp [intOf]; omega
        · obtain rfl : q = c.length := by omega
          have HDN := Lib.hid (HR.out.done HC5.out HOA.out HOB.out)
          go_wp2
          go_ret2
          exact ⟨_, o, rfl, HOW.out.mono HB5.out.size, HDN.out, HWB.out⟩
set_option maxRecDepth 100000 in
set_option maxHeartbeats 1000000 in
theorem DiffR_any (v1 v2 : Value) (a b : List Nod) (w : World) (ha : SliceC maxLen 12 (NodC maxLen) w [v1] a) (hb : SliceC maxLen 12 (NodC maxLen) w [v2] b) :
    Calls Tryd.prog 10 #[v1, v2] w (RetCE tChg w (diffOf a b)) := by
  by_cases hEA : treeFault a = 0
  · by_cases hEB : treeFault b = 0
    · rw [diffOf_ok hEA hEB]
      exact DiffR_ok v1 v2 a b w ha hb hEA hEB
    · rw [diffOf_b hEA hEB]
      have HSB := Lib.hid hb
      have HCA := Lib.hid (TreeFault_any v1 a w ha)
      rw [hEA] at HCA
      have HCB := Lib.hid (fun w h => TreeFault_any v2 b w h)
      generalize treeFault b = q at *
      have hq : (q == 0) = false := by rw [beq_eq_false_iff_ne]; exact hEB
      clear ha hb hEA hEB
      go_enter Tryd.func10, Tryd.ntmps10
      go_wp2_with fail
      refine HCA.out.mono ?_
      rintro e w1 ⟨rfl, hb⟩
      have HB1 := Lib.hid hb
      clear hb
      go_wp2_with fail
      refine (HCB.out _ (nods_below HSB.out HB1.out)).mono ?_
      rintro e w2 ⟨rfl, hb⟩
      have HB2 := Lib.hid (HB1.out.trans (hb.mono HB1.out.size))
      clear hb
      go_wp2
      go_ret2
      exact ⟨_, [], rfl, OwnChgs.nil _ _ _, rfl, HB2.out⟩
  · rw [diffOf_a hEA]
    have HCA := Lib.hid (TreeFault_any v1 a w ha)
    generalize treeFault a = q at *
    have hq : (q == 0) = false := by rw [beq_eq_false_iff_ne]; exact hEA
    clear ha hb hEA
    go_enter Tryd.func10, Tryd.ntmps10
    go_wp2_with fail
    refine HCA.out.mono ?_
    rintro e w1 ⟨rfl, hb⟩
    have HB1 := Lib.hid hb
    clear hb
    go_wp2
    go_ret2
    exact ⟨_, [], rfl, OwnChgs.nil _ _ _, rfl, HB1.out⟩
end Go.Proofs.YtaffgndickdbiaaDoor
/-
  creellaw.sameChanges, of two lists that are the same.
-/
namespace Go.Creel
set_option linter.unusedVariables false
set_option linter.unusedSimpArgs false
open Go.RowKit
def ChgCells (w : World) (b o : Nat) (x : Chg) : Prop := w.cell? ⟨b, o, none⟩ = some (.int .i64 x.kind) ∧ w.cell? ⟨b, o + 1, none⟩ = some (.string x.node.path) ∧ w.cell? ⟨b, o + 2, none⟩ = some (.int .i64 x.node.kind) ∧ w.cell? ⟨b, o + 3, none⟩ = some (.int .i64 x.node.same) ∧ w.cell? ⟨b, o + 4, none⟩ = some (.string x.node.target) ∧ w.cell? ⟨b, o + 5, none⟩ = some (.int .i64 x.node.mt.mode) ∧ w.cell? ⟨b, o + 6, none⟩ = some (.int .i64 x.node.mt.uid) ∧ w.cell? ⟨b, o + 7, none⟩ = some (.int .i64 x.node.mt.gid) ∧ w.cell? ⟨b, o + 8, none⟩ = some (.string x.node.mt.user) ∧ w.cell? ⟨b, o + 9, none⟩ = some (.string x.node.mt.group) ∧ w.cell? ⟨b, o + 10, none⟩ = some (.int .i64 x.node.mt.second) ∧ w.cell? ⟨b, o + 11, none⟩ = some (.int .i64 x.node.mt.nano) ∧ w.cell? ⟨b, o + 12, none⟩ = some (.slice x.node.da x.node.data.length x.node.dcap)
theorem ChgAt.cells {w : World} {b o : Nat} {x : Chg} (h : ChgAt w b o x) : ChgCells w b o x := by
  obtain ⟨h0, h1, h2, h3, h4, h5, h6, h7, h8, h9, h10, h11, h12⟩ := h
  exact ⟨h0, h1, h2, h3, h4, h5, h6, h7, h8, h9, h10, h11, h12⟩
theorem ChgCells.below {w w' : World} {b o : Nat} {x : Chg} (h : ChgCells w b o x) (hb : Below w.heap.size w w') : ChgCells w' b o x := by
  have hlt : b < w.heap.size := World.block_lt_of_cell? w _ h.1
  obtain ⟨h0, h1, h2, h3, h4, h5, h6, h7, h8, h9, h10, h11, h12⟩ := h
  exact ⟨(hb.cell (p := ⟨b, o, none⟩) hlt).trans h0, (hb.cell (p := ⟨b, o + 1, none⟩) hlt).trans h1, (hb.cell (p := ⟨b, o + 2, none⟩) hlt).trans h2, (hb.cell (p := ⟨b, o + 3, none⟩) hlt).trans h3, (hb.cell (p := ⟨b, o + 4, none⟩) hlt).trans h4, (hb.cell (p := ⟨b, o + 5, none⟩) hlt).trans h5, (hb.cell (p := ⟨b, o + 6, none⟩) hlt).trans h6, (hb.cell (p := ⟨b, o + 7, none⟩) hlt).trans h7, (hb.cell (p := ⟨b, o + 8, none⟩) hlt).trans h8, (hb.cell (p := ⟨b, o + 9, none⟩) hlt).trans h9, (hb.cell (p := ⟨b, o + 10, none⟩) hlt).trans h10, (hb.cell (p := ⟨b, o + 11, none⟩) hlt).trans h11, (hb.cell (p := ⟨b, o + 12, none⟩) hlt).trans h12⟩
theorem chg_parts {x y : Chg} (h : x.bare = y.bare) : x.kind = y.kind ∧ x.node.bare = y.node.bare := by
  obtain ⟨k, n⟩ := x
  obtain ⟨k', n'⟩ := y
  unfold Chg.bare at h
  simp only [Chg.mk.injEq] at h
  exact h
theorem chg_len {l m : List Chg} (h : l.map Chg.bare = m.map Chg.bare) : l.length = m.length := by simpa using congrArg List.length h
theorem chg_ck {l m : List Chg} (h : l.map Chg.bare = m.map Chg.bare) {k : Nat} (hk : k < l.length) : (ck l k).bare = (ck m k).bare := by
  have hl := chg_len h
  have h2 : (l.map Chg.bare)[k]? = (m.map Chg.bare)[k]? := by rw [h]
  rw [List.getElem?_map, List.getElem?_map, List.getElem?_eq_getElem hk, List.getElem?_eq_getElem (by omega)] at h2
  rw [ck_eq hk, ck_eq (by omega)]
  simpa using h2
abbrev Chg.val (x : Chg) : Value := .agg #[.int .i64 x.kind, .string x.node.path, .int .i64 x.node.kind, .int .i64 x.node.same, .string x.node.target, .int .i64 x.node.mt.mode, .int .i64 x.node.mt.uid, .int .i64 x.node.mt.gid, .string x.node.mt.user, .string x.node.mt.group, .int .i64 x.node.mt.second, .int .i64 x.node.mt.nano, .slice x.node.da x.node.data.length x.node.dcap]
/-- an own row of changes, told of its slice -/
theorem chgs_row {t : TypeId} {w : World} {B : Nat} {v : Value} {l : List Chg} (h : OwnChgs t w B v l) : ∃ p cap, v = .slice p l.length cap ∧ l.length ≤ cap ∧ cap ≤ maxLen ∧ (0 < l.length → ∃ g, p = some ⟨g, 0, none⟩ ∧ ∀ k, k < l.length → ChgCells w g (k * 13) (ck l k) ∧ (ck l k).node.Ok maxLen w) := by
  rcases h.form with ⟨rfl, rfl⟩ | ⟨g, cap, rfl, hgB, hgw, hcap, hcapm⟩
  · exact ⟨none, 0, rfl, by simp, by unfold maxLen; omega, fun h => absurd h (by simp)⟩
  · exact ⟨_, cap, rfl, hcap, hcapm, fun _ => ⟨g, rfl, fun k hk => ⟨(h.chgAt hk).cells, (h.chgIn hk).2.1⟩⟩⟩
end Go.Creel
namespace Go.Proofs.YtaffgndickdbiaaDoor
set_option linter.unusedVariables false
set_option linter.unusedSimpArgs false
open Go.Creel Go.RowKit
abbrev boxC (x : Chg) : Obj := .cells #[.int .i64 x.kind, .string x.node.path, .int .i64 x.node.kind, .int .i64 x.node.same, .string x.node.target, .int .i64 x.node.mt.mode, .int .i64 x.node.mt.uid, .int .i64 x.node.mt.gid, .string x.node.mt.user, .string x.node.mt.group, .int .i64 x.node.mt.second, .int .i64 x.node.mt.nano, .slice x.node.da x.node.data.length x.node.dcap] 62
set_option maxRecDepth 100000 in
set_option maxHeartbeats 1000000 in
theorem SameChg_eq (x y : Chg) (w : World) (hxy : x.bare = y.bare) (hx : x.node.Ok maxLen w) (hy : y.node.Ok maxLen w) :
    Calls Tryd.prog 38 #[x.val, y.val] w fun e w' => e = .returned (.bool true) ∧ Below w.heap.size w w' := by
  obtain ⟨k, n⟩ := x
  obtain ⟨k', n'⟩ := y
  obtain ⟨h1, h2⟩ := chg_parts hxy
  simp only at h1 h2
  subst h1
  have HB := Lib.hid fun o1 o2 : Obj => ((Below.refl w.heap.size w).alloc (Nat.le_refl _) o1).alloc (by simp) o2
  have HS := Lib.hid (fun o1 o2 : Obj => SameNode_eq n n' ((w.alloc o1).alloc o2) h2 (hx.below (HB.out o1 o2)) (hy.below (HB.out o1 o2)))
  have q2 : (k == k) = true := by simp
  clear hx hy hxy h2
  go_enter Tryd.func38, Tryd.ntmps38
  go_wp2_with fail
  refine (HS.out _ _).mono ?_
  rintro e w1 ⟨rfl, hb⟩
  have HB2 := Lib.hid ((HB.out _ _).trans (hb.mono (HB.out _ _).size))
  clear hb
  go_wp2
  go_ret
  exact ⟨rfl, HB2.out⟩
set_option maxRecDepth 100000 in
set_option maxHeartbeats 1000000 in
theorem EqualChgs_any (v1 v2 : Value) (B1 B2 : Nat) (l m : List Chg) (w : World) (hlm : l.map Chg.bare = m.map Chg.bare) (ho1 : OwnChgs 62 w B1 v1 l) (ho2 : OwnChgs 62 w B2 v2 m) :
    Calls Tryd.prog 37 #[v1, v2, .func (.func 38) #[] #[]] w fun e w' => e = .returned (.bool true) ∧ Below w.heap.size w w' := by
  have hl := chg_len hlm
  obtain ⟨p1, cp1, rfl, hcl1, hcm1, hr1⟩ := chgs_row ho1
  obtain ⟨p2, cp2, rfl, hcl2, hcm2, hr2⟩ := chgs_row ho2
  rw [← hl] at hcl2 hr2 ⊢
  have HR1 := Lib.hid hr1
  have HR2 := Lib.hid hr2
  have HLM := Lib.hid (fun k (hk : k < l.length) => chg_ck hlm hk)
  unfold maxLen at hcm1 hcm2
  clear hl ho1 ho2 hlm hr1 hr2
  generalize hn : l.length = n at *
  go_enter Tryd.func37, Tryd.ntmps37
  go_wp2
  go_loopw [7, 8, 9, 17] (fun _ _ _ i wr => ∃ k : Nat, k ≤ n ∧ i = .int .i64 k ∧ Hid (Below w.heap.size w wr)) (fun _ _ _ i _ => n - (intOf i).toNat)
  case atStart => exact ⟨0, by omega, rfl, Lib.hid (Below.refl _ _)⟩
  case round =>
    obtain ⟨k, hk, rfl, HB⟩ := hrel
    by_cases hlt : k < n
    · obtain ⟨b1, rfl, hc1⟩ := HR1.out (by omega)
      obtain ⟨b2, rfl, hc2⟩ := HR2.out (by omega)
      obtain ⟨h0, h1, h2, h3, h4, h5, h6, h7, h8, h9, h10, h11, h12⟩ := (hc1 k hlt).1.below HB.out
      obtain ⟨g0, g1, g2, g3, g4, g5, g6, g7, g8, g9, g10, g11, g12⟩ := ((hc2 k hlt).1.below HB.out).below ((Below.refl wr.heap.size wr).alloc (Nat.le_refl _) (boxC (ck l k)))
      have HS := Lib.hid (fun (w3 : World) (hb : Below wr.heap.size wr w3) => SameChg_eq (ck l k) (ck m k) w3 (HLM.out k hlt) (((hc1 k hlt).2.below HB.out).below hb) (((hc2 k hlt).2.below HB.out).below hb))
      clear hc1 hc2
      generalize ck l k = x at *
      generalize ck m k = y at *
      go_wp2_with (go_at_call 38; have hbb := ((Below.refl wr.heap.size wr).alloc (Nat.le_refl _) (boxC x)).alloc (by simp) (boxC y); refine (HS.out _ hbb).mono ?_; rintro e w' ⟨rfl, hb2⟩; have HB2 := Lib.hid (HB.out.trans ((hbb.trans (hb2.mono hbb.size)).mono HB.out.size)); clear hb2 hbb)
      go_roundw
      case rel => exact ⟨k + 1, by omega, by go_num, HB2⟩
      case measure => simp [intOf]; omega
    · obtain rfl : k = n := by omega
      go_wp2
      go_ret
      exact ⟨rfl, HB.out⟩
set_option maxRecDepth 100000 in
theorem SameChgs_eq (v1 v2 : Value) (B1 B2 : Nat) (l m : List Chg) (w : World) (hlm : l.map Chg.bare = m.map Chg.bare) (ho1 : OwnChgs 62 w B1 v1 l) (ho2 : OwnChgs 62 w B2 v2 m) :
    Calls Tryd.prog 11 #[v1, v2] w fun e w' => e = .returned (.bool true) ∧ Below w.heap.size w w' := by
  have HQ := Lib.hid (EqualChgs_any v1 v2 B1 B2 l m w hlm ho1 ho2)
  clear hlm ho1 ho2
  go_enter Tryd.func11, Tryd.ntmps11
  go_wp2_with fail
  refine HQ.out.mono ?_
  rintro e w1 ⟨rfl, hb⟩
  have HB := Lib.hid hb
  clear hb
  go_wp2
  go_ret
  exact ⟨rfl, HB.out⟩
end Go.Proofs.YtaffgndickdbiaaDoor
