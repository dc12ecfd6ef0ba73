/-
  Texts: PaxRd.
-/
import Derived.Test.YtaffgndickdbiaaGreatDoorR33
import Derived.Test.YtaffgndickdbiaaGreatDoorR34
set_option linter.unusedVariables false
set_option linter.unusedSimpArgs false
set_option linter.unusedSectionVars false
namespace Go.Creel
open Go.RowKit
def szOf : Value → Nat
  | .string s => s.size
  | _ => 0
end Go.Creel
namespace Go.Proofs.YtaffgndickdbiaaGreatDoor
open Go.Creel Go.RowKit
set_option maxRecDepth 100000 in
set_option maxHeartbeats 4000000 in
theorem PaxRead_any (s : ByteArray) (w : World) (hs : s.size ≤ 1048576) (hT : Pow10 w) :
    Calls Tryz.prog 51 #[.string s] w (RetRecs 85 w (paxOf s)) := by
  obtain ⟨i0, hi, hz0, hz1, hz2⟩ := info_parts info_record
  have HI := Lib.hid (And.intro hi (And.intro hz0 (And.intro hz1 hz2)))
  have HT := Lib.hid hT
  have HSM := Lib.hid hs
  clear hi hz0 hz1 hz2 hT hs
  go_enter Tryz.func51, Tryz.ntmps51
  go_wp2
  go_loopw [0, 4, 5, 6, 7] (fun v0 v4 _ _ _ wr => ∃ (n : Nat) (r : ByteArray) (vv : Value) (acc : List Rec), v0 = .string r ∧ vv = v4 ∧ r.size ≤ n ∧ acc.length + r.size ≤ s.size ∧ Hid (paxGo n r acc = paxGo s.size s []) ∧ Hid (OwnRecs 85 wr w.heap.size vv acc) ∧
    Hid (∀ x ∈ acc, x.key.size ≤ maxLen ∧ x.value.size ≤ maxLen) ∧ Hid (Below w.heap.size w wr)) (fun v0 _ _ _ _ _ => szOf v0)
  case atStart => exact ⟨s.size, s, _, [], rfl, rfl, by omega, by simp, Lib.hid rfl, Lib.hid (OwnRecs.nil _ _ _), Lib.hid (by simp), Lib.hid (Below.refl _ _)⟩
  case round =>
    obtain ⟨n, r, vv, acc, rfl, rfl, hn, hlen, HG, HO, HS, HB⟩ := hrel
    by_cases h0 : r.size = 0
    · have he := empty_t h0
      have HGD := Lib.hid (HG.out.symm.trans (paxGo_done h0))
      have hsl := HO.out.slice (by have := HSM.out; unfold maxLen; omega) HS.out
      have HCK := Lib.hid (PaxL_any vv acc wr hsl)
      have HP := Lib.hid (show paxOf s = if paxFault acc ≠ 0 then ([], paxFault acc) else (acc, 0) by unfold paxOf; rw [HGD.out]; rfl)
      clear hsl
      generalize paxFault acc = f at *
      go_wp2_with fail
      refine HCK.out.mono ?_
      rintro e w2 ⟨rfl, hb⟩
      have HO2 := Lib.hid (HO.out.below hb)
      have HW2 := Lib.hid (HB.out.trans (hb.mono HB.out.size))
      clear hb
      by_cases hf : f = 0
      · subst hf
        go_wp2
        go_ret2
        rw [HP.out, if_neg (by simp)]
        exact ⟨_, rfl, HO2.out, HW2.out⟩
      · have hne : (f != 0) = true := by rw [bne_iff_ne]; exact hf
        go_wp2
        go_ret2
        rw [HP.out, if_pos hf]
        exact ⟨_, rfl, OwnRecs.nil _ _ _, HW2.out⟩
    · have he := empty_f h0
      have HRD := Lib.hid (fun w h => RecRead_any r w (by have := HSM.out; unfold maxLen; omega) h)
      have HBAD := Lib.hid (fun h => paxGo_bad (acc := acc) h0 hn h)
      have HSTP := Lib.hid (fun h => paxGo_step (acc := acc) h0 hn h)
      have HLS := Lib.hid (fun h => recOf_less (s := r) h)
      generalize recOf r = p at *
      obtain ⟨⟨key, value⟩, rest, e0⟩ := p
      simp only [Rec.cells] at HRD
      go_wp2_with fail
      refine (HRD.out _ (HT.out.below HB.out)).mono ?_
      rintro e w2 ⟨rfl, hb⟩
      have HW2 := Lib.hid (HB.out.trans (hb.mono HB.out.size))
      have HO2 := Lib.hid (HO.out.below hb)
      clear hb
      by_cases hz : e0 = 0
      · subst hz
        obtain ⟨l1, l2, l3⟩ := HLS.out rfl
        have HST := Lib.hid (HSTP.out rfl)
        have HBA := Lib.hid (Below.refl w2.heap.size w2 |>.alloc (Nat.le_refl _) (.cells #[.string key, .string value] 85))
        generalize hW3 : w2.alloc (.cells #[.string key, .string value] 85) = w3 at *
        have HBB := Lib.hid (Below.refl w3.heap.size w3 |>.alloc (Nat.le_refl _) (.cells #[.string key, .string value] 85))
        have HO3 := Lib.hid ((HO2.out.below HBA.out).below HBB.out)
        have HW4 := Lib.hid ((HW2.out.trans (HBA.out.mono HW2.out.size)).trans (HBB.out.mono (Nat.le_trans HW2.out.size HBA.out.size)))
        have hsm := HSM.out
        have hc0 : w3.cell? ⟨w2.heap.size, 0, none⟩ = some (.string key) := by rw [← hW3]; simp
        have hc1 : w3.cell? ⟨w2.heap.size, 1, none⟩ = some (.string value) := by rw [← hW3]; simp
        go_wp2_with (at_builtin; refine wpList_app _ rfl (.tmp 20) (.tmp 22) 63 63 rfl _ _ rfl rfl (fun ty => app_src _ 63 63 ty w.heap.size 85 i0 _ 2 32 Tryz.underlying63 HI.out.1 HI.out.2.1 HI.out.2.2.1 HI.out.2.2.2 rfl (by decide) _ _ acc.length 1 _ _ HO3.out (src_rec w3 _ _ _ Tryz.underlying63 ⟨key, value⟩) (by unfold maxLen; omega) (by omega) HW4.out.size) ?_; intro v3 w5 ho2 hg2 hv2; have HZ := Lib.hid (And.intro ho2 (And.intro hg2 hv2.2)); clear ho2 hg2 hv2)
        refine ⟨⟨n - 1, rest, v3, acc ++ [⟨key, value⟩], rfl, rfl, by omega, by simp; omega, Lib.hid (HST.out.symm.trans HG.out), Lib.hid (OwnRecs.app (m := [⟨key, value⟩]) HZ.out.1), Lib.hid ?_, Lib.hid (below_app HW4.out HZ.out.2.1 HO3.out HW4.out.size)⟩, by simp only [szOf]; exact l1⟩
        intro x hx
        rcases List.mem_append.1 hx with a | a
        · exact HS.out x a
        · rw [List.mem_singleton.1 a]
          constructor <;> (simp only; unfold maxLen; omega)
      · have hne : (e0 != 0) = true := by rw [bne_iff_ne]; exact hz
        have HF := Lib.hid (show paxOf s = ([], e0) by unfold paxOf; rw [← HG.out, HBAD.out hz, if_pos hz])
        have HA := Lib.hid (HW2.out.alloc HW2.out.size (.cells #[.string key, .string value] 85))
        go_wp2
        go_ret2
        rw [HF.out]
        exact ⟨_, rfl, OwnRecs.nil _ _ _, HA.out⟩
set_option maxRecDepth 100000 in
set_option maxHeartbeats 4000000 in
theorem PaxOf_any (s : ByteArray) (w : World) (hs : s.size ≤ 1048576) (hT : Pow10 w) :
    Calls Tryz.prog 55 #[.string s] w (RetRecs 85 w (paxOf s)) := by
  obtain ⟨i0, hi, hz0, hz1, hz2⟩ := info_parts info_record
  have HI := Lib.hid (And.intro hi (And.intro hz0 (And.intro hz1 hz2)))
  have HT := Lib.hid hT
  have HSM := Lib.hid hs
  clear hi hz0 hz1 hz2 hT hs
  go_enter Tryz.func55, Tryz.ntmps55
  go_wp2
  go_loopw [0, 4, 5, 6, 7] (fun v0 v4 _ _ _ wr => ∃ (n : Nat) (r : ByteArray) (vv : Value) (acc : List Rec), v0 = .string r ∧ vv = v4 ∧ r.size ≤ n ∧ acc.length + r.size ≤ s.size ∧ Hid (paxGo n r acc = paxGo s.size s []) ∧ Hid (OwnRecs 85 wr w.heap.size vv acc) ∧
    Hid (∀ x ∈ acc, x.key.size ≤ maxLen ∧ x.value.size ≤ maxLen) ∧ Hid (Below w.heap.size w wr)) (fun v0 _ _ _ _ _ => szOf v0)
  case atStart => exact ⟨s.size, s, _, [], rfl, rfl, by omega, by simp, Lib.hid rfl, Lib.hid (OwnRecs.nil _ _ _), Lib.hid (by simp), Lib.hid (Below.refl _ _)⟩
  case round =>
    obtain ⟨n, r, vv, acc, rfl, rfl, hn, hlen, HG, HO, HS, HB⟩ := hrel
    by_cases h0 : r.size = 0
    · have he := empty_t h0
      have HGD := Lib.hid (HG.out.symm.trans (paxGo_done h0))
      have hsl := HO.out.slice (by have := HSM.out; unfold maxLen; omega) HS.out
      have HCK := Lib.hid (PaxR_any vv acc wr hsl)
      have HP := Lib.hid (show paxOf s = if paxFault acc ≠ 0 then ([], paxFault acc) else (acc, 0) by unfold paxOf; rw [HGD.out]; rfl)
      clear hsl
      generalize paxFault acc = f at *
      go_wp2_with fail
      refine HCK.out.mono ?_
      rintro e w2 ⟨rfl, hb⟩
      have HO2 := Lib.hid (HO.out.below hb)
      have HW2 := Lib.hid (HB.out.trans (hb.mono HB.out.size))
      clear hb
      by_cases hf : f = 0
      · subst hf
        go_wp2
        go_ret2
        rw [HP.out, if_neg (by simp)]
        exact ⟨_, rfl, HO2.out, HW2.out⟩
      · have hne : (f != 0) = true := by rw [bne_iff_ne]; exact hf
        go_wp2
        go_ret2
        rw [HP.out, if_pos hf]
        exact ⟨_, rfl, OwnRecs.nil _ _ _, HW2.out⟩
    · have he := empty_f h0
      have HRD := Lib.hid (fun w h => RecordOf_any r w (by have := HSM.out; unfold maxLen; omega) h)
      have HBAD := Lib.hid (fun h => paxGo_bad (acc := acc) h0 hn h)
      have HSTP := Lib.hid (fun h => paxGo_step (acc := acc) h0 hn h)
      have HLS := Lib.hid (fun h => recOf_less (s := r) h)
      generalize recOf r = p at *
      obtain ⟨⟨key, value⟩, rest, e0⟩ := p
      simp only [Rec.cells] at HRD
      go_wp2_with fail
      refine (HRD.out _ (HT.out.below HB.out)).mono ?_
      rintro e w2 ⟨rfl, hb⟩
      have HW2 := Lib.hid (HB.out.trans (hb.mono HB.out.size))
      have HO2 := Lib.hid (HO.out.below hb)
      clear hb
      by_cases hz : e0 = 0
      · subst hz
        obtain ⟨l1, l2, l3⟩ := HLS.out rfl
        have HST := Lib.hid (HSTP.out rfl)
        have HBA := Lib.hid (Below.refl w2.heap.size w2 |>.alloc (Nat.le_refl _) (.cells #[.string key, .string value] 85))
        generalize hW3 : w2.alloc (.cells #[.string key, .string value] 85) = w3 at *
        have HBB := Lib.hid (Below.refl w3.heap.size w3 |>.alloc (Nat.le_refl _) (.cells #[.string key, .string value] 85))
        have HO3 := Lib.hid ((HO2.out.below HBA.out).below HBB.out)
        have HW4 := Lib.hid ((HW2.out.trans (HBA.out.mono HW2.out.size)).trans (HBB.out.mono (Nat.le_trans HW2.out.size HBA.out.size)))
        have hsm := HSM.out
        have hc0 : w3.cell? ⟨w2.heap.size, 0, none⟩ = some (.string key) := by rw [← hW3]; simp
        have hc1 : w3.cell? ⟨w2.heap.size, 1, none⟩ = some (.string value) := by rw [← hW3]; simp
        go_wp2_with (at_builtin; refine wpList_app _ rfl (.tmp 21) (.tmp 23) 63 63 rfl _ _ rfl rfl (fun ty => app_src _ 63 63 ty w.heap.size 85 i0 _ 2 32 Tryz.underlying63 HI.out.1 HI.out.2.1 HI.out.2.2.1 HI.out.2.2.2 rfl (by decide) _ _ acc.length 1 _ _ HO3.out (src_rec w3 _ _ _ Tryz.underlying63 ⟨key, value⟩) (by unfold maxLen; omega) (by omega) HW4.out.size) ?_; intro v3 w5 ho2 hg2 hv2; have HZ := Lib.hid (And.intro ho2 (And.intro hg2 hv2.2)); clear ho2 hg2 hv2)
        refine ⟨⟨n - 1, rest, v3, acc ++ [⟨key, value⟩], rfl, rfl, by omega, by simp; omega, Lib.hid (HST.out.symm.trans HG.out), Lib.hid (OwnRecs.app (m := [⟨key, value⟩]) HZ.out.1), Lib.hid ?_, Lib.hid (below_app HW4.out HZ.out.2.1 HO3.out HW4.out.size)⟩, by simp only [szOf]; exact l1⟩
        intro x hx
        rcases List.mem_append.1 hx with a | a
        · exact HS.out x a
        · rw [List.mem_singleton.1 a]
          constructor <;> (simp only; unfold maxLen; omega)
      · have hne : (e0 != 0) = true := by rw [bne_iff_ne]; exact hz
        have HF := Lib.hid (show paxOf s = ([], e0) by unfold paxOf; rw [← HG.out, HBAD.out hz, if_pos hz])
        have HA := Lib.hid (HW2.out.alloc HW2.out.size (.cells #[.string key, .string value] 85))
        go_wp2
        go_ret2
        rw [HF.out]
        exact ⟨_, rfl, OwnRecs.nil _ _ _, HA.out⟩
end Go.Proofs.YtaffgndickdbiaaGreatDoor
