/-
  path.In, path.Compare and their references.
-/
import Derived.Test.YtaffgndickdbiaaGreatDoorPathFns
namespace Go.Creel
set_option linter.unusedVariables false
open Go.RowKit
def cmpS (x y : ByteArray) : Int := if Op.bytesLess x.toList y.toList = true then -1 else if (x.toList == y.toList) = true then 0 else 1
theorem cmpS_cases (x y : ByteArray) : (Op.bytesLess x.toList y.toList = true ∧ cmpS x y = -1) ∨ (Op.bytesLess x.toList y.toList = false ∧ (x.toList == y.toList) = true ∧ cmpS x y = 0) ∨ (Op.bytesLess x.toList y.toList = false ∧ (x.toList == y.toList) = false ∧ cmpS x y = 1) := by
  unfold cmpS
  cases h : Op.bytesLess x.toList y.toList with
  | true => exact .inl ⟨rfl, by simp⟩
  | false =>
    right
    cases h2 : (x.toList == y.toList) with
    | true => exact .inl ⟨rfl, rfl, by simp⟩
    | false => exact .inr ⟨rfl, rfl, by simp⟩
def ordP : List ByteArray → List ByteArray → Int
  | [], [] => 0
  | [], _ :: _ => -1
  | _ :: _, [] => 1
  | x :: xs, y :: ys => if cmpS x y = 0 then ordP xs ys else cmpS x y
theorem ordP_drop {X Y : List ByteArray} : ∀ {k : Nat}, k ≤ X.length → k ≤ Y.length → (∀ j, j < k → cmpS (piece X j) (piece Y j) = 0) → ordP X Y = ordP (X.drop k) (Y.drop k)
  | 0, _, _, _ => by simp
  | k + 1, hx, hy, h => by
    rw [ordP_drop (k := k) (by omega) (by omega) (fun j hj => h j (by omega))]
    rw [List.drop_eq_getElem_cons (show k < X.length by omega), List.drop_eq_getElem_cons (show k < Y.length by omega)]
    have := h k (by omega)
    rw [piece_eq (show k < X.length by omega), piece_eq (show k < Y.length by omega)] at this
    simp only [ordP, this, if_true]
theorem ordP_at {X Y : List ByteArray} {k : Nat} (hx : k < X.length) (hy : k < Y.length) (h : ∀ j, j < k → cmpS (piece X j) (piece Y j) = 0) (hne : cmpS (piece X k) (piece Y k) ≠ 0) : ordP X Y = cmpS (piece X k) (piece Y k) := by
  rw [ordP_drop (Nat.le_of_lt hx) (Nat.le_of_lt hy) h, List.drop_eq_getElem_cons hx, List.drop_eq_getElem_cons hy]
  rw [piece_eq hx, piece_eq hy] at hne ⊢
  simp only [ordP, hne, if_false]
theorem ordP_left {X Y : List ByteArray} (hy : X.length < Y.length) (h : ∀ j, j < X.length → cmpS (piece X j) (piece Y j) = 0) : ordP X Y = -1 := by
  rw [ordP_drop (Nat.le_refl _) (Nat.le_of_lt hy) h, List.drop_eq_getElem_cons hy, List.drop_length]
  rfl
theorem ordP_both {X Y : List ByteArray} (hy : X.length = Y.length) (h : ∀ j, j < X.length → cmpS (piece X j) (piece Y j) = 0) : ordP X Y = 0 := by
  rw [ordP_drop (Nat.le_refl _) (Nat.le_of_eq hy) h, List.drop_length, hy, List.drop_length]
  rfl
theorem ordP_right {X Y : List ByteArray} (hy : Y.length < X.length) (h : ∀ j, j < Y.length → cmpS (piece X j) (piece Y j) = 0) : ordP X Y = 1 := by
  rw [ordP_drop (Nat.le_of_lt hy) (Nat.le_refl _) h, List.drop_eq_getElem_cons hy, List.drop_length]
  rfl
theorem slice_form' {t : TypeId} {w : World} {B : Nat} {v : Value} {l : List ByteArray} (h : OwnSs t w B v l) : ∃ p cap, v = .slice p l.length cap ∧ (0 < l.length → ∃ g, p = some ⟨g, 0, none⟩) := by
  rcases h.form with ⟨rfl, rfl⟩ | ⟨g, cap, rfl, hgB, hgw, hcap, hcapm⟩
  · exact ⟨none, 0, rfl, fun h => absurd h (by simp)⟩
  · exact ⟨_, _, rfl, fun _ => ⟨g, rfl⟩⟩
theorem parts_len' {s : ByteArray} (hs : s.size ≤ 1048576) : (pathParts s).length ≤ 8000000000 := by
  unfold pathParts
  split
  · simp
  · have := partsL_length 47 s.data.toList
    unfold partsS
    rw [List.length_map]
    have e := Lib.size_eq s
    omega
end Go.Creel
namespace Go.Proofs.YtaffgndickdbiaaGreatDoor
set_option linter.unusedVariables false
open Go.Creel Go.RowKit
set_option maxRecDepth 100000 in
theorem isNaN_any (x : ByteArray) (w : World) : Calls Tryz.prog 228 #[.string x] w fun e w' => e = .returned (.bool false) ∧ w = w' := by
  have he : (x.toList == x.toList) = true := by simp
  go_enter Tryz.func228, Tryz.ntmps228
  go_wp2
  go_ret
  exact ⟨by simp, rfl⟩
set_option maxRecDepth 100000 in
theorem cmpS_any (x y : ByteArray) (w : World) : Calls Tryz.prog 207 #[.string x, .string y] w fun e w' => e = .returned (.int .i64 (cmpS x y)) ∧ w = w' := by
  rcases cmpS_cases x y with ⟨h1, h3⟩ | ⟨h1, h2, h3⟩ | ⟨h1, h2, h3⟩
  all_goals
    have HF := Lib.hid h3
    clear h3
    go_enter Tryz.func207, Tryz.ntmps207
    go_wp2_with (go_at_call 228; refine (isNaN_any _ _).mono ?_; rintro e w' ⟨rfl, rfl⟩)
    go_ret
    exact ⟨ret_i HF.out, rfl⟩
set_option maxRecDepth 100000 in
set_option maxHeartbeats 2000000 in
theorem cmpTexts_any (w : World) (B C : Nat) (v u : Value) (X Y : List ByteArray) (hX : X.length ≤ 8000000000) (hY : Y.length ≤ 8000000000) (hv : OwnSs 9 w B v X) (hu : OwnSs 9 w C u Y) :
    Calls Tryz.prog 160 #[v, u] w fun e w' => e = .returned (.int .i64 (ordP X Y)) ∧ Below w.heap.size w w' := by
  obtain ⟨p, cap, rfl, hp⟩ := slice_form' hv
  obtain ⟨q, caq, rfl, hq⟩ := slice_form' hu
  have HV := Lib.hid hv
  have HU := Lib.hid hu
  have HP := Lib.hid hp
  have HQ := Lib.hid hq
  clear hv hu hp hq
  go_enter Tryz.func160, Tryz.ntmps160
  go_wp2
  go_loopw [5, 11] (fun _ i wr => ∃ k : Nat, k ≤ X.length ∧ k ≤ Y.length ∧ i = .int .i64 k ∧ Hid (∀ j, j < k → cmpS (piece X j) (piece Y j) = 0) ∧ Below w.heap.size w wr) (fun _ i _ => X.length - (intOf i).toNat)
  case atStart => exact ⟨0, by omega, by omega, rfl, Lib.hid fun j hj => absurd hj (by omega), Below.refl _ _⟩
  case round =>
    obtain ⟨k, hk, hk2, rfl, HD, hb⟩ := hrel
    by_cases hlt : k < X.length
    · obtain ⟨g, rfl⟩ := HP.out (by omega)
      have hc := (HV.out.below hb).cell hlt
      by_cases hlt2 : k < Y.length
      · obtain ⟨g2, rfl⟩ := HQ.out (by omega)
        have hc2 := (HU.out.below hb).cell hlt2
        have HBB := Lib.hid hb
        clear hb
        by_cases h0 : cmpS (piece X k) (piece Y k) = 0
        · have H0 := Lib.hid h0
          go_wp2_with (go_at_call 207; refine (cmpS_any _ _ _).mono ?_; rintro e w' ⟨rfl, rfl⟩; rw [H0.out])
          go_roundw
          case rel =>
            refine ⟨k + 1, by omega, by omega, by go_num, Lib.hid fun j hj => ?_, HBB.out⟩
            by_cases e : j = k
            · rw [e]; exact H0.out
            · exact HD.out j (by omega)
          case measure => simp [intOf]; omega
        · have HF := Lib.hid (ordP_at hlt hlt2 HD.out h0)
          have HC := Lib.hid (cmpS_any (piece X k) (piece Y k))
          clear hc2
          have hc2 := (HU.out.below HBB.out).cell hlt2
          generalize cmpS (piece X k) (piece Y k) = c at *
          generalize piece X k = x at *
          generalize piece Y k = y at *
          go_wp2_with (go_at_call 207; refine (HC.out _).mono ?_; rintro e w' ⟨rfl, rfl⟩)
          go_ret
          exact ⟨ret_i HF.out, HBB.out⟩
      · obtain rfl : k = Y.length := by omega
        have HF := Lib.hid (ordP_right hlt HD.out)
        have HBB := Lib.hid hb
        clear hb
        go_wp2
        go_ret
        exact ⟨ret_i HF.out, HBB.out⟩
    · obtain rfl : k = X.length := by omega
      have HBB := Lib.hid hb
      clear hb
      by_cases hlt2 : X.length < Y.length
      · have HF := Lib.hid (ordP_left hlt2 HD.out)
        go_wp2
        go_ret
        exact ⟨ret_i HF.out, HBB.out⟩
      · have HF := Lib.hid (ordP_both (by omega) HD.out)
        go_wp2
        go_ret
        exact ⟨ret_i HF.out, HBB.out⟩
set_option maxRecDepth 100000 in
set_option maxHeartbeats 2000000 in
theorem PathOrder_any (a b : ByteArray) (w : World) (ha : a.size ≤ 1048576) (hb : b.size ≤ 1048576) :
    Calls Tryz.prog 115 #[.string a, .string b] w fun e w' => e = .returned (.int .i64 (ordP (pathParts a) (pathParts b))) ∧ Below w.heap.size w w' := by
  have hX : (pathParts a).length ≤ 8000000000 := parts_len' ha
  have hY : (pathParts b).length ≤ 8000000000 := parts_len' hb
  generalize hXX : pathParts a = X at *
  generalize hYY : pathParts b = Y at *
  have HXX := Lib.hid hXX
  have HYY := Lib.hid hYY
  clear hXX hYY
  go_enter Tryz.func115, Tryz.ntmps115
  go_wp2_with fail
  refine (PathParts_any _ _ (by omega)).mono ?_
  rintro e w1 ⟨v1, rfl, ho, hb1⟩
  rw [HXX.out] at ho
  have HB1 := Lib.hid hb1
  have HO1 := Lib.hid ho
  clear hb1 ho
  go_wp2_with fail
  refine (PathParts_any _ _ (by omega)).mono ?_
  rintro e w2 ⟨v2, rfl, ho, hb2⟩
  rw [HYY.out] at ho
  have HB2 := Lib.hid (HB1.out.trans (hb2.mono HB1.out.size))
  have HV := Lib.hid (HO1.out.below hb2)
  have HU := Lib.hid ho
  clear hb2 ho
  obtain ⟨p, cap, rfl, hp⟩ := slice_form' HV.out
  obtain ⟨q, caq, rfl, hq⟩ := slice_form' HU.out
  go_wp2
  have HP := Lib.hid hp
  have HQ := Lib.hid hq
  clear hp hq
  go_loopw [7] (fun i wr => ∃ k : Nat, k ≤ X.length ∧ k ≤ Y.length ∧ i = .int .i64 k ∧ Hid (∀ j, j < k → cmpS (piece X j) (piece Y j) = 0) ∧ Below w2.heap.size w2 wr) (fun i _ => X.length - (intOf i).toNat)
  case atStart => exact ⟨0, by omega, by omega, rfl, Lib.hid fun j hj => absurd hj (by omega), Below.refl _ _⟩
  case round =>
    obtain ⟨k, hk, hk2, rfl, HD, hbb⟩ := hrel
    by_cases hlt : k < X.length
    · by_cases hlt2 : k < Y.length
      · obtain ⟨g, rfl⟩ := HP.out (by omega)
        obtain ⟨g2, rfl⟩ := HQ.out (by omega)
        have hc := (HV.out.below hbb).cell hlt
        have hc2 := (HU.out.below hbb).cell hlt2
        have HBB := Lib.hid hbb
        clear hbb
        have HAT := Lib.hid (ordP_at hlt hlt2 HD.out)
        generalize hx : piece X k = x at *
        generalize hy : piece Y k = y at *
        have HX := Lib.hid hx
        have HY := Lib.hid hy
        clear hx hy
        rcases cmpS_cases x y with ⟨h1, h3⟩ | ⟨h1, h2, h3⟩ | ⟨h1, h2, h3⟩
        · have HF := Lib.hid ((HAT.out (by rw [h3]; decide)).trans h3)
          clear h3
          go_wp2
          go_quiet (fail)
          go_wp2
          go_ret
          exact ⟨ret_i HF.out, HB2.out.trans ((HBB.out.trans (below_draws _ _ _)).mono HB2.out.size)⟩
        · have H0 := Lib.hid h3
          clear h3
          go_wp2
          go_quiet (fail)
          go_wp2
          go_quiet (fail)
          go_wp2
          go_roundw
          case rel =>
            refine ⟨k + 1, by omega, by omega, by go_num, Lib.hid fun j hj => ?_, HBB.out.trans (below_draws _ _ _)⟩
            by_cases e : j = k
            · rw [e, HX.out, HY.out]; exact H0.out
            · exact HD.out j (by omega)
          case measure => simp [intOf]; omega
        · have HF := Lib.hid ((HAT.out (by rw [h3]; decide)).trans h3)
          clear h3
          go_wp2
          go_quiet (fail)
          go_wp2
          go_quiet (fail)
          go_wp2
          go_ret
          exact ⟨ret_i HF.out, HB2.out.trans (((HBB.out.trans (below_draws _ _ _)).trans (below_draws _ _ _)).mono HB2.out.size)⟩
      · obtain rfl : k = Y.length := by omega
        have HF := Lib.hid (ordP_right hlt HD.out)
        have HBB := Lib.hid hbb
        clear hbb
        go_wp2
        go_ret
        exact ⟨ret_i HF.out, HB2.out.trans (HBB.out.mono HB2.out.size)⟩
    · obtain rfl : k = X.length := by omega
      have HBB := Lib.hid hbb
      clear hbb
      by_cases hlt2 : X.length < Y.length
      · have HF := Lib.hid (ordP_left hlt2 HD.out)
        go_wp2
        go_ret
        exact ⟨ret_i HF.out, HB2.out.trans (HBB.out.mono HB2.out.size)⟩
      · have HF := Lib.hid (ordP_both (by omega) HD.out)
        go_wp2
        go_ret
        exact ⟨ret_i HF.out, HB2.out.trans (HBB.out.mono HB2.out.size)⟩
end Go.Proofs.YtaffgndickdbiaaGreatDoor
