/-
  glob.Check, walked.
-/
import Derived.Test.YtecmcgedeaemgaaDoorGlobCheck
namespace Go.Creel
set_option linter.unusedVariables false
set_option linter.unusedSimpArgs false
open Go.RowKit
/-- two stars, as bytes -/
theorem stars_is {p : ByteArray} {i : Nat} (hi : i ≤ p.size) (h : ((p.extract i p.size).toList == [42, 42]) = true) : p.size = i + 2 ∧ byt p i = 42 ∧ byt p (i + 1) = 42 := by
  rw [beq_iff_eq, Lib.toList_data] at h
  have hs : (p.extract i p.size).size = 2 := by rw [Lib.size_eq, h]; rfl
  rw [size_tail] at hs
  have h0 : byt (p.extract i p.size) 0 = 42 := by unfold byt; rw [h]; rfl
  have h1 : byt (p.extract i p.size) 1 = 42 := by unfold byt; rw [h]; rfl
  rw [byt_tail] at h0 h1
  exact ⟨by omega, h0, h1⟩
theorem tail_back {t p : ByteArray} {i : Nat} (h : t = p.extract i p.size) (k : Nat) : t.extract k t.size = p.extract (i + k) p.size := by
  subst h
  rw [size_tail, tail_tail]
theorem whole_tail (s : ByteArray) : s = s.extract 0 s.size := by
  apply ext_bytes
  rw [Lib.extract_data, List.drop_zero, Nat.sub_zero]
  exact (List.take_of_length_le (by simp)).symm
/-- how far a part of a pattern has been looked at -/
def PartAt (p : ByteArray) (i : Nat) : Prop := i ≤ p.size ∧ okAt p i = okAt p 0
theorem PartAt.start (p : ByteArray) : PartAt p 0 := ⟨by omega, rfl⟩
theorem PartAt.next {p : ByteArray} {i : Nat} (h : PartAt p i) (hi : i < p.size) (hb : ¬ tokBad p i) : PartAt p (tokNext p i) := ⟨tokNext_le hi hb, by rw [← h.2, okAt_more hi hb]⟩
end Go.Creel
namespace Go.Proofs.YtecmcgedeaemgaaDoor
set_option linter.unusedVariables false
set_option linter.unusedSimpArgs false
open Go.Creel Go.RowKit
set_option maxRecDepth 100000 in
set_option maxHeartbeats 2000000 in
theorem GlobCheck_any (s : ByteArray) (w : World) (hM : MaxOk w) (hs : s.size ≤ maxLen) :
    Calls Tryd.prog 57 #[.string s] w fun e w' => e = .returned (.int .i64 (globFault s)) ∧ Below w.heap.size w w' := by
  unfold maxLen at hs
  by_cases h : s.size < 1 ∨ 400 < s.size
  · have HF := Lib.hid (globFault_size h)
    rcases h with h | h
    · go_enter Tryd.func57, Tryd.ntmps57
      go_wp2
      go_ret
      exact ⟨ret_i HF.out, Below.refl _ _⟩
    · go_enter Tryd.func57, Tryd.ntmps57
      go_wp2
      go_ret
      exact ⟨ret_i HF.out, Below.refl _ _⟩
  · have h1 : 1 ≤ s.size := by omega
    have h2 : s.size ≤ 400 := by omega
    have HNO := Lib.hid (fun k => globFault_bad h (k := k))
    have HYES := Lib.hid (globFault_ok h)
    have HM := Lib.hid hM
    have HPS := Lib.hid (show ∀ p ∈ partsS 47 s, p.size ≤ 400 by
      intro p hp
      unfold partsS at hp
      obtain ⟨q, hq, rfl⟩ := List.mem_map.1 hp
      rw [ofL_size]
      have := partsL_sizes 47 _ q hq
      have h3 : s.data.toList.length ≤ 400 := by rw [← Lib.size_eq]; exact h2
      omega)
    clear h hM
    go_enter Tryd.func57, Tryd.ntmps57
    go_wp2_with (go_at_call 104; fail)
    refine (SplitSlash_any s _ HM.out (by omega)).mono ?_
    rintro e w1 ⟨v, rfl, ho, hb⟩
    have hlen : (partsS 47 s).length ≤ s.size + 1 := by
      have := partsL_length 47 s.data.toList
      unfold partsS
      rw [List.length_map, Lib.size_eq s]; exact this
    have hne : 0 < (partsS 47 s).length := by
      unfold partsS
      rw [List.length_map]; exact List.length_pos_iff.2 (partsL_ne _ _)
    generalize partsS 47 s = P at *
    have hform := ho.form
    rcases hform with ⟨_, e0⟩ | ⟨g, cap, hv, hgB, hgw, hcap, hcapm⟩
    · rw [e0] at hne; simp at hne
    · subst hv
      have HO := Lib.hid ho
      have HB := Lib.hid hb
      clear ho hb hne hgB hgw
      go_wp2
      go_loop [4, 5, 17] (fun _ _ i => ∃ k : Nat, k ≤ P.length ∧ i = .int .i64 k ∧ Hid (∀ j, j < k → wrongG (piece P j) = 0)) (fun _ _ i => P.length - (intOf i).toNat)
      case atStart => exact ⟨0, by omega, rfl, fun j hj => absurd hj (by omega)⟩
      case round =>
        obtain ⟨k, hk, rfl, HD⟩ := hrel
        by_cases hlt : k < P.length
        · have hc := HO.out.cell hlt
          have hple := piece_le HPS.out k
          have HST := Lib.hid (fun (e : ¬ wrongG (piece P k) = 0) => HNO.out k hlt HD.out e)
          have HNX := Lib.hid (fun (e : wrongG (piece P k) = 0) => show ∀ j, j < k + 1 → wrongG (piece P j) = 0 from fun j hj => by
            by_cases e1 : j = k
            · rw [e1]; exact e
            · exact HD.out j (by omega))
          generalize piece P k = p at *
          by_cases h0 : p.size = 0
          · have e0 := empty_t h0
            have hst := wrongG_empty h0
            have HF := Lib.hid ((HST.out (by rw [hst]; decide)).trans hst)
            clear h0 hst
            go_wp2
            go_ret
            exact ⟨ret_i HF.out, HB.out⟩
          · have e0 := empty_f h0
            have HZ := Lib.hid h0
            have HBAD := Lib.hid (fun (e : okAt p 0 = false) => wrongG_bad h0 e)
            have HOK := Lib.hid (fun (e : okAt p 0 = true) => wrongG_ok h0 e)
            clear h0
            go_wp2
            go_loop [4, 5] (fun t _ => ∃ (i : Nat) (q : ByteArray), t = .string q ∧ Hid (q = p.extract i p.size) ∧ Hid (PartAt p i)) (fun t _ => slen t)
            case atStart => exact ⟨0, p, rfl, Lib.hid (whole_tail p), Lib.hid (PartAt.start p)⟩
            case round =>
              obtain ⟨i, q, rfl, HQ, HA⟩ := hrel
              have hip := HA.out.1
              have HSZ := Lib.hid (show q.size = p.size - i by rw [HQ.out, size_tail])
              have hq400 : q.size ≤ 400 := by rw [HSZ.out]; omega
              by_cases hst : (q.toList == [42, 42]) = true
              · have hok : okAt p 0 = true := by
                  rw [HQ.out] at hst
                  obtain ⟨a, b, c⟩ := stars_is hip hst
                  rw [← HA.out.2]
                  exact okAt_stars a b c
                have HN := Lib.hid (HNX.out (HOK.out hok))
                clear hok
                go_wp2
                go_round
                case rel => exact ⟨k + 1, by omega, by go_num, HN.out⟩
                case measure => simp [intOf]; omega
              · rw [Bool.not_eq_true] at hst
                by_cases hqz : q.size = 0
                · have hqe := empty_t hqz
                  have hok : okAt p 0 = true := by
                    rw [← HA.out.2]
                    exact okAt_end (by have := HSZ.out; omega)
                  have HN := Lib.hid (HNX.out (HOK.out hok))
                  clear hok hqz
                  go_wp2
                  go_round
                  case rel => exact ⟨k + 1, by omega, by go_num, HN.out⟩
                  case measure => simp [intOf]; omega
                · have hqe := empty_f hqz
                  have hq0 : 0 < q.size := by omega
                  have hi : i < p.size := by have := HSZ.out; omega
                  have HX := Lib.hid (show q[0].toNat = byt p i by
                    rw [byt_get q 0 hq0, HQ.out, byt_tail]; rfl)
                  have hqb : q[0].toNat < 256 := UInt8.toNat_lt _
                  by_cases hbr : byt p i = 91
                  · have hx : q[0].toNat = 91 := HX.out.trans hbr
                    have hx2 : (((q[0].toNat : Nat) : Int) == 91) = true := by rw [hx]; rfl
                    by_cases hbad : p.size ≤ setEnd p i
                    · have hok : okAt p 0 = false := by
                        rw [← HA.out.2]
                        exact okAt_bad hi ⟨hbr, hbad⟩
                      have hst2 := HBAD.out hok
                      have HF := Lib.hid ((HST.out (by rw [hst2]; decide)).trans hst2)
                      have HE := Lib.hid (show endOf q = -1 by rw [HQ.out]; exact endOf_bad hi hbad)
                      clear hok hst2 hbad hbr hx
                      go_wp2_with (go_at_call 105; refine (GlobEnd_any q _ (by omega) (by unfold maxLen; omega)).mono ?_; rintro e w' ⟨rfl, rfl⟩; rw [HE.out])
                      go_ret
                      exact ⟨ret_i HF.out, HB.out⟩
                    · have HE := Lib.hid (show endOf q = ((setEnd p i + 1 - i : Nat) : Int) by rw [HQ.out]; exact endOf_ok hi hbad)
                      have hnx : tokNext p i = setEnd p i + 1 := by unfold tokNext; rw [if_pos hbr]
                      have hnb : ¬ tokBad p i := fun h => hbad h.2
                      have HA2 := Lib.hid (HA.out.next hi hnb)
                      have hge := setEnd_gt p i
                      have hkq : setEnd p i + 1 - i ≤ q.size := by have := HSZ.out; omega
                      have hk0 : 0 < setEnd p i + 1 - i := by omega
                      have HT := Lib.hid (show q.extract (setEnd p i + 1 - i) q.size = p.extract (tokNext p i) p.size by
                        rw [tail_back HQ.out, hnx]; congr 1; omega)
                      clear hbad hbr hx hnb hge
                      generalize setEnd p i + 1 - i = m at *
                      go_wp2_with (go_at_call 105; refine (GlobEnd_any q _ (by omega) (by unfold maxLen; omega)).mono ?_; rintro e w' ⟨rfl, rfl⟩; rw [HE.out])
                      go_round
                      case rel => exact ⟨tokNext p i, _, rfl, HT, HA2⟩
                      case measure => simp [slen]; omega
                  · have hx2 : (((q[0].toNat : Nat) : Int) == 91) = false := by rw [HX.out, beq_eq_false_iff_ne]; omega
                    have hnx : tokNext p i = i + 1 := by unfold tokNext; rw [if_neg hbr]
                    have hnb : ¬ tokBad p i := fun h => hbr h.1
                    have HA2 := Lib.hid (HA.out.next hi hnb)
                    have HT := Lib.hid (show q.extract 1 q.size = p.extract (tokNext p i) p.size by rw [tail_back HQ.out, hnx])
                    clear hbr hnb
                    go_wp2
                    go_round
                    case rel => exact ⟨tokNext p i, _, rfl, HT, HA2⟩
                    case measure => simp [slen]; omega
        · obtain rfl : k = P.length := by omega
          have HF := Lib.hid (HYES.out HD.out)
          go_wp2
          go_ret
          exact ⟨ret_i HF.out, HB.out⟩
end Go.Proofs.YtecmcgedeaemgaaDoor
