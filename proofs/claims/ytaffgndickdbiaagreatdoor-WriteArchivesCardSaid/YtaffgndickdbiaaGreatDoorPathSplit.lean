/-
  The reference of path.Up and path.Base; two slices of texts compared.
-/
import Derived.Test.YtaffgndickdbiaaGreatDoorPathFns
namespace Go.Creel
set_option linter.unusedVariables false
open Go.RowKit
/-- what the reference has gathered after `k` parts -/
def upTo (P : List ByteArray) (k : Nat) : ByteArray := ofL (joinL ((P.take k).map fun p => p.data.toList))
theorem upTo_zero (P : List ByteArray) : upTo P 0 = ⟨#[]⟩ := by unfold upTo; simp [joinL]; rfl
theorem upTo_one {P : List ByteArray} (h : 0 < P.length) : upTo P 1 = ⟨#[]⟩ ++ piece P 0 := by
  unfold upTo
  rw [piece_eq h]
  cases P with
  | nil => simp at h
  | cons a t => 
    show ofL (joinL [a.data.toList]) = _
    simp only [joinL]
    apply ext_bytes
    rw [ofL_data]
    simp
theorem upTo_more {P : List ByteArray} {k : Nat} (h : k < P.length) (h0 : 0 < k) : upTo P (k + 1) = upTo P k ++ ofL [47] ++ piece P k := by
  unfold upTo
  rw [piece_eq h, List.take_succ_eq_append_getElem h, List.map_append, List.map_cons, List.map_nil, joinL_snoc, if_neg (by
    intro e
    have := congrArg List.length e
    rw [List.length_map, List.length_take, List.length_nil] at this
    omega)]
  apply ext_bytes
  rw [ofL_data]
  simp [ofL]
theorem upTo_parts (s : ByteArray) : upTo (partsS 47 s) ((partsS 47 s).length - 1) = pathUp s := by
  unfold upTo partsS pathUp
  rw [List.length_map, ← List.map_take, List.map_map, ← List.dropLast_eq_take]
  congr 2
  conv => rhs; rw [← List.map_id (partsL 47 s.data.toList).dropLast]
  apply List.map_congr_left
  intro x _
  simp [ofL_data]
theorem base_parts (s : ByteArray) : piece (partsS 47 s) ((partsS 47 s).length - 1) = pathBase s := by
  have h : (partsL 47 s.data.toList) ≠ [] := partsL_ne _ _
  unfold pathBase partsS
  have hl : 0 < (partsL 47 s.data.toList).length := List.length_pos_iff.2 h
  rw [piece_eq (by rw [List.length_map]; omega), List.getElem_map, List.getLastD_eq_getLast?, List.getLast?_eq_getElem?, List.getElem?_eq_getElem (by omega)]
  simp
theorem joinL_take : ∀ (L : List (List UInt8)) (k : Nat), (joinL (L.take k)).length ≤ (joinL L).length
  | [], k => by simp
  | [a], 0 => by simp [joinL]
  | [a], k + 1 => by simp
  | a :: b :: t, 0 => by simp [joinL]
  | a :: b :: t, 1 => by simp [joinL]
  | a :: b :: t, k + 2 => by
    have ih := joinL_take (b :: t) (k + 1)
    simp only [List.take_succ_cons] at ih ⊢
    simp only [joinL, List.length_append, List.length_cons]
    omega
theorem upTo_size (s : ByteArray) (k : Nat) : (upTo (partsS 47 s) k).size ≤ s.size := by
  unfold upTo partsS
  rw [← List.map_take, List.map_map, ofL_size]
  have h : (List.map ((fun p : ByteArray => p.data.toList) ∘ ofL) ((partsL 47 s.data.toList).take k)) = (partsL 47 s.data.toList).take k := by
    conv => rhs; rw [← List.map_id ((partsL 47 s.data.toList).take k)]
    apply List.map_congr_left
    intro x _
    simp [ofL_data]
  rw [h]
  refine Nat.le_trans (joinL_take _ _) ?_
  rw [joinL_parts, Lib.size_eq s]
  exact Nat.le_refl _
theorem piece_size (s : ByteArray) (k : Nat) : (piece (partsS 47 s) k).size ≤ s.size := by
  refine piece_le (fun p hp => ?_) k
  unfold partsS at hp
  obtain ⟨q, hq, rfl⟩ := List.mem_map.1 hp
  rw [ofL_size, Lib.size_eq s]
  exact partsL_sizes 47 s.data.toList q hq
end Go.Creel
namespace Go.Proofs.YtaffgndickdbiaaGreatDoor
set_option linter.unusedVariables false
open Go.Creel Go.RowKit
set_option maxRecDepth 100000 in
set_option maxHeartbeats 2000000 in
theorem PathSplit_any (s : ByteArray) (w : World) (hs : s.size ≤ 4000000000) :
    Calls Tryz.prog 116 #[.string s] w fun e w' => e = .returned (.tuple #[.string (pathUp s), .string (pathBase s)]) ∧ Below w.heap.size w w' := by
  go_enter Tryz.func116, Tryz.ntmps116
  go_wp2_with fail
  refine (parts_any s 47 _ rfl _ hs).mono ?_
  rintro e w1 ⟨v, rfl, ho, hb⟩
  have hlen : (partsS 47 s).length ≤ s.size + 1 := by
    have := partsL_length 47 s.data.toList
    unfold partsS
    rw [List.length_map, Lib.size_eq s]; exact this
  have hne : 0 < (partsS 47 s).length := by
    unfold partsS
    rw [List.length_map]; exact List.length_pos_iff.2 (partsL_ne _ _)
  have HSU := Lib.hid (upTo_size s)
  have HSP := Lib.hid (piece_size s)
  have HU := Lib.hid (upTo_parts s)
  have HP := Lib.hid (base_parts s)
  generalize partsS 47 s = P at *
  have hform := ho.form
  rcases hform with ⟨_, e0⟩ | ⟨g, cap, hv, hgB, hgw, hcap, hcapm⟩
  · rw [e0] at hne; simp at hne
  · subst hv
    have HO := Lib.hid ho
    have HB := Lib.hid hb
    clear ho hb hgB hgw
    go_wp2
    go_loopw [5, 6] (fun u i wr => ∃ k : Nat, k ≤ P.length - 1 ∧ i = .int .i64 k ∧ u = .string (upTo P k) ∧ Below w1.heap.size w1 wr) (fun _ i _ => P.length - (intOf i).toNat)
    case atStart => exact ⟨0, by omega, rfl, by rw [upTo_zero], Below.refl _ _⟩
    case round =>
      obtain ⟨k, hk, rfl, rfl, hb⟩ := hrel
      have HC := Lib.hid (HO.out.below hb)
      have HBB := Lib.hid hb
      clear hb
      by_cases hlt : k < P.length - 1
      · have hc := HC.out.cell (j := k) (by omega)
        have hz1 := HSU.out k
        have hz2 := HSP.out k
        by_cases h0 : 0 < k
        · have HS := Lib.hid (upTo_more (P := P) (k := k) (by omega) h0)
          generalize upTo P k = u at *
          generalize piece P k = p at *
          go_wp2
          go_roundw
          case rel => exact ⟨k + 1, by omega, by go_num, by rw [HS.out]; rfl, HBB.out⟩
          case measure => simp [intOf]; omega
        · obtain rfl : k = 0 := by omega
          have HS := Lib.hid (upTo_one (P := P) (by omega))
          rw [← upTo_zero P] at HS
          generalize upTo P 0 = u at *
          generalize piece P 0 = p at *
          go_wp2
          go_roundw
          case rel => exact ⟨0 + 1, by omega, by go_num, by rw [HS.out], HBB.out⟩
          case measure => simp [intOf]; omega
      · obtain rfl : k = P.length - 1 := by omega
        have hc := HC.out.cell (j := P.length - 1) (by omega)
        have hpi : ((P.length : Int) - 1).toNat = P.length - 1 := by omega
        rw [HP.out] at hc
        rw [HU.out]
        go_wp2
        go_quiet (fail)
        go_wp2
        go_ret2
        exact ⟨rfl, HB.out.trans ((HBB.out.trans (below_draws _ _ _)).mono HB.out.size)⟩
end Go.Proofs.YtaffgndickdbiaaGreatDoor
