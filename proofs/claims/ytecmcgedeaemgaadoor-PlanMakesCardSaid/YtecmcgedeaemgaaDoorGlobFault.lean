/-
  The reference of glob.Check.
-/
import Derived.Test.YtecmcgedeaemgaaDoorGlobTokW
import Derived.Test.YtecmcgedeaemgaaDoorGlobCheckW
namespace Go.Proofs.YtecmcgedeaemgaaDoor
set_option linter.unusedVariables false
set_option linter.unusedSimpArgs false
open Go.Creel Go.RowKit
set_option maxRecDepth 100000 in
set_option maxHeartbeats 2000000 in
theorem GlobFault_any (s : ByteArray) (w : World) (hs : s.size ≤ maxLen) :
    Calls Tryd.prog 61 #[.string s] w fun e w' => e = .returned (.int .i64 (globFault s)) ∧ Below w.heap.size w w' := by
  unfold maxLen at hs
  by_cases h : s.size < 1 ∨ 400 < s.size
  · have HF := Lib.hid (globFault_size h)
    by_cases h0 : s.size = 0
    · have he := empty_t h0
      clear h h0
      go_enter Tryd.func61, Tryd.ntmps61
      go_wp2
      go_ret
      exact ⟨ret_i HF.out, Below.refl _ _⟩
    · have he := empty_f h0
      have h1 : 400 < s.size := by omega
      clear h h0
      go_enter Tryd.func61, Tryd.ntmps61
      go_wp2
      go_ret
      exact ⟨ret_i HF.out, Below.refl _ _⟩
  · have h1 : 1 ≤ s.size := by omega
    have h2 : s.size ≤ 400 := by omega
    have he := empty_f (show ¬ s.size = 0 by omega)
    have HNO := Lib.hid (fun k => globFault_bad h (k := k))
    have HYES := Lib.hid (globFault_ok h)
    have HPS := Lib.hid (show ∀ p ∈ partsS 47 s, p.size ≤ 400 by
      intro p hp
      unfold partsS at hp
      obtain ⟨q, hq, rfl⟩ := List.mem_map.1 hp
      rw [ofL_size]
      have := partsL_sizes 47 _ q hq
      have h3 : s.data.toList.length ≤ 400 := by rw [← Lib.size_eq]; exact h2
      omega)
    clear h
    go_enter Tryd.func61, Tryd.ntmps61
    go_wp2_with (go_at_call 63; fail)
    refine (parts_any s 47 _ rfl _ (by omega)).mono ?_
    rintro e w1 ⟨v, rfl, ho, hb⟩
    have hlen : (partsS 47 s).length ≤ s.size + 1 := by
      have := partsL_length 47 s.data.toList
      unfold partsS
      rw [List.length_map, Lib.size_eq s]; exact this
    have hne : 0 < (partsS 47 s).length := by
      unfold partsS
      rw [List.length_map]; exact List.length_pos_iff.2 (partsL_ne _ _)
    generalize partsS 47 s = P at *
    have hform := ho.form
    rcases hform with ⟨_, e0⟩ | ⟨g, cap, hv, hgB, hgw, hcap, hcapm⟩
    · rw [e0] at hne; simp at hne
    · subst hv
      have HO := Lib.hid ho
      have HB := Lib.hid hb
      clear ho hb hne hgB hgw
      go_wp2
      go_loopw [4, 5, 6, 17] (fun _ _ _ i wr => ∃ k : Nat, k ≤ P.length ∧ i = .int .i64 k ∧ Hid (∀ j, j < k → wrongG (piece P j) = 0) ∧ Hid (Below w1.heap.size w1 wr)) (fun _ _ _ i _ => P.length - (intOf i).toNat)
      case atStart => exact ⟨0, by omega, rfl, Lib.hid (fun j hj => absurd hj (by omega)), Lib.hid (Below.refl _ _)⟩
      case round =>
        obtain ⟨k, hk, rfl, HD, HB1⟩ := hrel
        have HBW := Lib.hid (HB.out.trans (HB1.out.mono HB.out.size))
        by_cases hlt : k < P.length
        · have hc := (HO.out.below HB1.out).cell hlt
          have hple := piece_le HPS.out k
          have HST := Lib.hid (fun (e : ¬ wrongG (piece P k) = 0) => HNO.out k hlt HD.out e)
          have HNX := Lib.hid (fun (e : wrongG (piece P k) = 0) => show ∀ j, j < k + 1 → wrongG (piece P j) = 0 from fun j hj => by
            by_cases e1 : j = k
            · rw [e1]; exact e
            · exact HD.out j (by omega))
          generalize piece P k = p at *
          by_cases h0 : p.size = 0
          · have e0 := empty_t h0
            have hst := wrongG_empty h0
            have HF := Lib.hid ((HST.out (by rw [hst]; decide)).trans hst)
            clear h0 hst
            go_wp2
            go_ret
            exact ⟨ret_i HF.out, HBW.out⟩
          · have e0 := empty_f h0
            have HBAD := Lib.hid (fun (e : okAt p 0 = false) => wrongG_bad h0 e)
            have HOK := Lib.hid (fun (e : okAt p 0 = true) => wrongG_ok h0 e)
            clear h0
            go_wp2_with fail
            refine (tokens_any p _ (by omega)).mono ?_
            rintro e w2 ⟨v2, rfl, _, hb⟩
            have HB2 := Lib.hid (HB1.out.trans (hb.mono HB1.out.size))
            have HBW2 := Lib.hid (HBW.out.trans (hb.mono HBW.out.size))
            clear hb
            cases hok : (toks p 0).isSome with
            | true =>
              have HN := Lib.hid (HNX.out (HOK.out hok))
              clear hok
              go_wp2
              go_roundw
              case rel => exact ⟨k + 1, by omega, by go_num, HN, HB2⟩
              case measure => simp [intOf]; omega
            | false =>
              have hst2 := HBAD.out hok
              have HF := Lib.hid ((HST.out (by rw [hst2]; decide)).trans hst2)
              clear hok hst2
              go_wp2
              go_ret
              exact ⟨ret_i HF.out, HBW2.out⟩
        · obtain rfl : k = P.length := by omega
          have HF := Lib.hid (HYES.out HD.out)
          go_wp2
          go_ret
          exact ⟨ret_i HF.out, HBW.out⟩
end Go.Proofs.YtecmcgedeaemgaaDoor
