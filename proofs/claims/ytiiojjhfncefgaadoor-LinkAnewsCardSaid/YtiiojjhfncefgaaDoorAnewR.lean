/-
  creelref.LinkAnew.
-/
import Derived.Test.YtiiojjhfncefgaaDoorAnewL
namespace Go.Proofs.YtiiojjhfncefgaaDoor
set_option linter.unusedVariables false
set_option linter.unusedSimpArgs false
open Go.Creel Go.RowKit
set_option maxRecDepth 100000 in
set_option maxHeartbeats 4000000 in
theorem AnewR_any (v : Value) (l : List Nod) (w : World) (h : SliceC maxLen 12 (NodC maxLen) w [v] l) :
    Calls Tryd.prog 21 #[v] w (RetTE 36 w (linkAnew l)) := by
  have H := Lib.hid h
  by_cases hE : treeFault l = 0
  · have HF := Lib.hid (linkAnew_ok hE)
    have HL1 := Lib.hid (linkFirsts_ok hE)
    have HL2 := Lib.hid (linkNames_ok hE)
    have hfew := (treeFault_all hE).1
    have HD := Lib.hid (treeFault_data hE)
    clear hE h
    go_enter Tryd.func21, Tryd.ntmps21
    go_wp2_with fail
    refine (LinkR_any v l _ H.out).mono ?_
    rintro e w1 ⟨v1, rfl, ho, hb⟩
    rw [HL1.out] at ho ⊢
    have HB1 := Lib.hid hb
    have HO1 := Lib.hid ho
    have H1 := Lib.hid (nods_below H.out hb)
    clear hb ho
    go_wp2_with fail
    refine (NamesR_any v l _ H1.out).mono ?_
    rintro e w2 ⟨v2, rfl, ho, hb⟩
    rw [HL2.out] at ho ⊢
    have HB2 := Lib.hid (HB1.out.trans (hb.mono HB1.out.size))
    have HO2 := Lib.hid (HO1.out.below hb)
    have HP2 := Lib.hid ho
    have H2 := Lib.hid (nods_below H1.out hb)
    clear hb ho
    go_wp2_with fail
    refine (CopyR_any v l _ H2.out (by omega) HD.out).mono ?_
    rintro e w3 ⟨v3, c, rfl, ho, hcl, hb⟩
    have HB3 := Lib.hid hb
    have hlen := bare_len hcl
    obtain ⟨p, cap, rfl, hp⟩ := slice_formN ho
    rw [hlen] at ho hp ⊢
    have HP := Lib.hid hp
    have HO3 := Lib.hid ho
    have HT := Lib.hid (AnewTo.start hcl)
    obtain ⟨p1, cap1, rfl, hp1⟩ := slice_formI HO2.out
    obtain ⟨p2, cap2, rfl, hp2⟩ := slice_formI HP2.out
    have hfl := firstsL_len l l.length
    have hnl := namesN_len l l.length
    rw [hfl] at hp1
    rw [hnl] at hp2
    have HQ1 := Lib.hid hp1
    have HQ2 := Lib.hid hp2
    clear hb ho hp hcl hlen hp1 hp2
    go_wp2
    go_loopw [9] (fun i wr => ∃ (k : Nat) (m : List Nod), k ≤ l.length ∧ i = .int .i64 k ∧ Hid (OwnNods 36 wr w2.heap.size (.slice p l.length cap) m) ∧ Hid (AnewTo l m k) ∧ Hid (Below w2.heap.size w2 wr)) (fun i _ => l.length - (intOf i).toNat)
    case atStart => exact ⟨0, c, by omega, rfl, HO3, HT, HB3⟩
    case round =>
      obtain ⟨k, m, hk, rfl, HOM, HTM, HBM⟩ := hrel
      by_cases hlt : k < l.length
      · obtain ⟨g, rfl, hgB⟩ := HP.out (by omega)
        obtain ⟨g1, rfl⟩ := HQ1.out (by omega)
        obtain ⟨g2, rfl⟩ := HQ2.out (by omega)
        have HZ := Lib.hid (HOM.out.putSame HTM.out.1 hlt 0 (by unfold i64; omega))
        have HBZ := Lib.hid (HBM.out.setCell (p := ⟨g, k * 12 + 2, none⟩) hgB (.int .i64 0))
        have hcz := HZ.out.2.1
        have hfz := HZ.out.2.2.1
        have hmc := (HP2.out.below HBZ.out).cell (j := k) (by omega)
        rw [namesN_at hlt] at hmc
        have hfle := fstIdx_le l k
        have HAN := Lib.hid (show anewOf l k = if 1 < manyN l l.length (fstIdx l k) then (fstIdx l k : Int) + 1 else 0 from rfl)
        have HST := Lib.hid (HTM.out.step hlt)
        have hlc := (HO2.out.below HBZ.out).cell (j := k) (by omega)
        rw [firstsL_at hlt] at hlc
        generalize manyN l l.length (fstIdx l k) = n at *
        generalize fstIdx l k = f at *
        by_cases hn : 1 < n
        · have hd : decide ((1 : Int) < (n : Int)) = true := decide_eq_true (by omega)
          have HAN2 := Lib.hid (HAN.out.trans (if_pos hn))
          have HY := Lib.hid (HZ.out.1.putSame (by rw [List.length_set]; exact HTM.out.1) hlt ((f : Int) + 1) (by unfold i64; omega))
          have HBY := Lib.hid (HBZ.out.setCell (p := ⟨g, k * 12 + 2, none⟩) hgB (.int .i64 ((f : Int) + 1)))
          have hcy := HY.out.2.1
          have hfy := HY.out.2.2.1
          have HYO := Lib.hid HY.out.1
          rw [set_again, ← HAN2.out] at HYO
          clear hn
          go_wp2
          go_roundw
          case rel => exact ⟨k + 1, _, by omega, by go_num, by rw [HAN2.out] at HYO; rw [← HAN2.out] at HYO ⊢; exact HYO, HST, HBY⟩
          case measure => simp [intOf]; omega
        · have hd : decide ((1 : Int) < (n : Int)) = false := decide_eq_false (by omega)
          have HAN2 := Lib.hid (HAN.out.trans (if_neg hn))
          have HZO := Lib.hid HZ.out.1
          rw [← HAN2.out] at HZO
          clear hn
          go_wp2
          go_roundw
          case rel => exact ⟨k + 1, _, by omega, by go_num, by rw [HAN2.out] at HZO; exact HZO, by have e := HST.out; rw [HAN2.out] at e; exact Lib.hid e, HBZ⟩
          case measure => simp [intOf]; omega
      · obtain rfl : k = l.length := by omega
        go_wp2
        go_ret2
        rw [HF.out]
        exact ⟨_, m, rfl, HOM.out.mono HB2.out.size, HTM.out.done, HB2.out.trans (HBM.out.mono HB2.out.size)⟩
  · have HF := Lib.hid (linkAnew_bad hE)
    have HL1 := Lib.hid (linkFirsts_bad hE)
    have HE := Lib.hid hE
    clear hE h
    go_enter Tryd.func21, Tryd.ntmps21
    go_wp2_with fail
    refine (LinkR_any v l _ H.out).mono ?_
    rintro e w1 ⟨v1, rfl, ho, hb⟩
    rw [HL1.out]
    have HB1 := Lib.hid hb
    have hne := HE.out
    clear hb ho
    generalize treeFault l = q at *
    go_wp2
    go_ret2
    rw [HF.out]
    exact ⟨_, [], rfl, OwnNods.nil _ _ _, rfl, HB1.out⟩
end Go.Proofs.YtiiojjhfncefgaaDoor
