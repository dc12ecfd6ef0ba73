/-
  Texts: PathFns, PathCmp, PathSplit, Same.
-/
import Derived.Test.YtaffgndickdbiaaDoorT03
import Derived.Lib.LastIndexByte
set_option linter.unusedVariables false
set_option linter.unusedSimpArgs false
set_option linter.unusedSectionVars false
namespace Go.Creel
open Go.RowKit
def joinL : List (List UInt8) → List UInt8
  | [] => []
  | [h] => h
  | h :: t => h ++ 47 :: joinL t
theorem joinL_cons {h : List UInt8} {t : List (List UInt8)} (ht : t ≠ []) : joinL (h :: t) = h ++ 47 :: joinL t := by
  cases t with
  | nil => exact absurd rfl ht
  | cons a b => rfl
theorem joinL_parts : ∀ l, joinL (partsL 47 l) = l
  | [] => rfl
  | x :: l => by
    have ih := joinL_parts l
    by_cases h : x = 47
    · have : partsL 47 (x :: l) = [] :: partsL 47 l := by
        conv => lhs; unfold partsL
        rw [if_pos h]
      rw [this, joinL_cons (partsL_ne _ _), ih, h]; rfl
    · rw [partsL_cons h]
      cases hp : partsL 47 l with
      | nil => exact absurd hp (partsL_ne _ _)
      | cons a t =>
        rw [hp] at ih
        cases t with
        | nil => simp only [joinL] at ih ⊢; rw [ih]
        | cons b t => simp only [joinL, List.cons_append] at ih ⊢; rw [ih]
theorem joinL_snoc : ∀ (L : List (List UInt8)) (x : List UInt8), joinL (L ++ [x]) = if L = [] then x else joinL L ++ 47 :: x
  | [], x => rfl
  | [a], x => by simp [joinL]
  | a :: b :: t, x => by
    have ih := joinL_snoc (b :: t) x
    rw [if_neg (by simp)] at ih ⊢
    show a ++ 47 :: joinL ((b :: t) ++ [x]) = (a ++ 47 :: joinL (b :: t)) ++ 47 :: x
    rw [ih]; simp
theorem partsL_free {c : UInt8} : ∀ {l : List UInt8}, (∀ x ∈ l, x ≠ c) → partsL c l = [l]
  | [], _ => rfl
  | a :: l, h => by
    rw [partsL_cons (h a (by simp)), partsL_free (fun x hx => h x (by simp [hx]))]
theorem partsL_mid {c : UInt8} {b : List UInt8} (hb : ∀ x ∈ b, x ≠ c) : ∀ a : List UInt8, partsL c (a ++ c :: b) = partsL c a ++ [b]
  | [] => by simp [partsL, partsL_free hb]
  | x :: a => by
    have ih := partsL_mid hb a
    by_cases h : x = c
    · simp only [List.cons_append, partsL, h, if_true]
      rw [ih]
    · rw [List.cons_append, partsL_cons h, partsL_cons h, ih]
      cases hp : partsL c a with
      | nil => exact absurd hp (partsL_ne _ _)
      | cons h t => rfl
def pathUp (s : ByteArray) : ByteArray := ofL (joinL (partsL 47 s.data.toList).dropLast)
def pathBase (s : ByteArray) : ByteArray := ofL ((partsL 47 s.data.toList).getLastD [])
def pathParts (s : ByteArray) : List ByteArray := if s.size = 0 then [] else partsS 47 s
theorem data_at (s : ByteArray) (j : Nat) (h : j < s.size) : (s.data[j]!).toNat = byt s j := by
  rw [getElem!_pos s.data j (by simpa using h)]
  unfold byt
  rw [List.getD_eq_getElem?_getD, List.getElem?_eq_getElem (by simpa using h)]
  simp
theorem last_cases (s : ByteArray) : (Lib.lastIndexByte s 47 = -1 ∧ pathUp s = ByteArray.empty ∧ pathBase s = s) ∨
    ∃ i : Nat, Lib.lastIndexByte s 47 = i ∧ i < s.size ∧ pathUp s = s.extract 0 i ∧ pathBase s = s.extract (i + 1) s.size := by
  have hsz : s.size = s.data.toList.length := Lib.size_eq s
  rcases Lib.lastIndexByte_spec s 47 with ⟨h1, h2⟩ | ⟨i, h1, h2, h3, h4⟩
  · left
    have hf : ∀ x ∈ s.data.toList, x ≠ 47 := by
      intro x hx e
      obtain ⟨k, hk, rfl⟩ := List.getElem_of_mem hx
      have hk' : k < s.size := by omega
      have := h2 k hk'
      rw [data_at s k hk', (get_byt s k hk' 47).1 e] at this
      exact this rfl
    have hp := partsL_free hf
    refine ⟨h1, ?_, ?_⟩
    · unfold pathUp; rw [hp]; rfl
    · unfold pathBase; rw [hp]; exact ofL_of s
  · right
    have hi : byt s i = 47 := by rw [← data_at s i h1]; omega
    have hsplit : s.data.toList = s.data.toList.take i ++ 47 :: s.data.toList.drop (i + 1) := by
      have e := (get_byt s i h1 47).2 hi
      rw [← e, ← List.drop_eq_getElem_cons, List.take_append_drop]
    have hf : ∀ x ∈ s.data.toList.drop (i + 1), x ≠ 47 := by
      intro x hx e
      obtain ⟨k, hk, rfl⟩ := List.getElem_of_mem hx
      rw [List.getElem_drop] at e
      have hk' : i + 1 + k < s.size := by simp at hk; omega
      have := h4 (i + 1 + k) (by omega) hk'
      rw [data_at s _ hk', (get_byt s _ hk' 47).1 e] at this
      exact this rfl
    have hp : partsL 47 s.data.toList = partsL 47 (s.data.toList.take i) ++ [s.data.toList.drop (i + 1)] := by
      conv => lhs; rw [hsplit]
      exact partsL_mid hf _
    refine ⟨i, h2, h1, ?_, ?_⟩
    · unfold pathUp
      rw [hp, List.dropLast_concat, joinL_parts]
      apply ext_bytes
      rw [ofL_data, Lib.extract_data]; simp
    · unfold pathBase
      rw [hp]
      apply ext_bytes
      rw [ofL_data, Lib.extract_data]
      have hd : (s.data.toList.drop (i + 1)).length ≤ s.size - (i + 1) := by rw [List.length_drop]; omega
      rw [List.take_of_length_le hd]
      simp
end Go.Creel
namespace Go.Proofs.YtaffgndickdbiaaDoor
open Go.Creel Go.RowKit
set_option maxRecDepth 100000 in
theorem Up_any (s : ByteArray) (w : World) (hs : s.size ≤ 4000000000) :
    Calls Tryd.prog 70 #[.string s] w fun e w' => e = .returned (.string (pathUp s)) ∧ w = w' := by
  have HL := Lib.hid (fun (w : World) => Tryd.strings_LastIndexByte s 47 (by omega) w)
  rcases last_cases s with ⟨h1, h2, h3⟩ | ⟨i, h1, h2, h3, h4⟩
  · have HF := Lib.hid h2
    have hd : decide (Lib.lastIndexByte s 47 < 0) = true := by rw [h1]; rfl
    clear h1 h2 h3
    go_enter Tryd.func70, Tryd.ntmps70
    go_wp2_with (go_at_call 103; refine (HL.out _).mono ?_; rintro e w' ⟨rfl, rfl⟩)
    go_ret
    exact ⟨ret_s HF.out, rfl⟩
  · have HF := Lib.hid h3
    have HH := Lib.hid h1
    clear h1 h3 h4
    go_enter Tryd.func70, Tryd.ntmps70
    go_wp2_with (go_at_call 103; refine (HL.out _).mono ?_; rintro e w' ⟨rfl, rfl⟩; rw [HH.out])
    go_ret
    exact ⟨ret_s HF.out, rfl⟩
set_option maxRecDepth 100000 in
theorem Parts_any (s : ByteArray) (w : World) (hM : MaxOk w) (hs : s.size ≤ 4000000000) :
    Calls Tryd.prog 73 #[.string s] w (RetSs 9 w (pathParts s)) := by
  by_cases h0 : s.size = 0
  · have HF := Lib.hid (show pathParts s = [] by unfold pathParts; rw [if_pos h0])
    have he := empty_t h0
    clear h0
    go_enter Tryd.func73, Tryd.ntmps73
    go_wp2
    go_ret
    rw [HF.out]
    exact ⟨_, rfl, World.ownsRow_nil w _ _ 1, Below.refl _ _⟩
  · have HF := Lib.hid (show pathParts s = partsS 47 s by unfold pathParts; rw [if_neg h0])
    have he := empty_f h0
    have HM := Lib.hid hM
    clear h0 hM
    go_enter Tryd.func73, Tryd.ntmps73
    go_wp2_with fail
    refine (SplitSlash_any s _ HM.out hs).mono ?_
    rintro e w' ⟨v, rfl, ho, hb⟩
    have HO := Lib.hid ho
    have HB := Lib.hid hb
    clear ho hb
    go_wp2
    go_ret
    rw [HF.out]
    exact ⟨_, rfl, HO.out, HB.out⟩
set_option maxRecDepth 100000 in
theorem PathParts_any (s : ByteArray) (w : World) (hs : s.size ≤ 4000000000) :
    Calls Tryd.prog 82 #[.string s] w (RetSs 9 w (pathParts s)) := by
  by_cases h0 : s.size = 0
  · have HF := Lib.hid (show pathParts s = [] by unfold pathParts; rw [if_pos h0])
    have he := empty_t h0
    clear h0
    go_enter Tryd.func82, Tryd.ntmps82
    go_wp2
    go_ret
    rw [HF.out]
    exact ⟨_, rfl, World.ownsRow_nil w _ _ 1, Below.refl _ _⟩
  · have HF := Lib.hid (show pathParts s = partsS 47 s by unfold pathParts; rw [if_neg h0])
    have he := empty_f h0
    clear h0
    go_enter Tryd.func82, Tryd.ntmps82
    go_wp2_with fail
    refine (parts_any s 47 _ rfl _ hs).mono ?_
    rintro e w' ⟨v, rfl, ho, hb⟩
    have HO := Lib.hid ho
    have HB := Lib.hid hb
    clear ho hb
    go_wp2
    go_ret
    rw [HF.out]
    exact ⟨_, rfl, HO.out, HB.out⟩
end Go.Proofs.YtaffgndickdbiaaDoor
namespace Go.Creel
open Go.RowKit
def cmpS (x y : ByteArray) : Int := if Op.bytesLess x.toList y.toList = true then -1 else if (x.toList == y.toList) = true then 0 else 1
theorem cmpS_cases (x y : ByteArray) : (Op.bytesLess x.toList y.toList = true ∧ cmpS x y = -1) ∨ (Op.bytesLess x.toList y.toList = false ∧ (x.toList == y.toList) = true ∧ cmpS x y = 0) ∨ (Op.bytesLess x.toList y.toList = false ∧ (x.toList == y.toList) = false ∧ cmpS x y = 1) := by
  unfold cmpS
  cases h : Op.bytesLess x.toList y.toList with
  | true => exact .inl ⟨rfl, by simp⟩
  | false =>
    right
    cases h2 : (x.toList == y.toList) with
    | true => exact .inl ⟨rfl, rfl, by simp⟩
    | false => exact .inr ⟨rfl, rfl, by simp⟩
def ordP : List ByteArray → List ByteArray → Int
  | [], [] => 0
  | [], _ :: _ => -1
  | _ :: _, [] => 1
  | x :: xs, y :: ys => if cmpS x y = 0 then ordP xs ys else cmpS x y
theorem ordP_drop {X Y : List ByteArray} : ∀ {k : Nat}, k ≤ X.length → k ≤ Y.length → (∀ j, j < k → cmpS (piece X j) (piece Y j) = 0) → ordP X Y = ordP (X.drop k) (Y.drop k)
  | 0, _, _, _ => by simp
  | k + 1, hx, hy, h => by
    rw [ordP_drop (k := k) (by omega) (by omega) (fun j hj => h j (by omega))]
    rw [List.drop_eq_getElem_cons (show k < X.length by omega), List.drop_eq_getElem_cons (show k < Y.length by omega)]
    have := h k (by omega)
    rw [piece_eq (show k < X.length by omega), piece_eq (show k < Y.length by omega)] at this
    simp only [ordP, this, if_true]
theorem ordP_at {X Y : List ByteArray} {k : Nat} (hx : k < X.length) (hy : k < Y.length) (h : ∀ j, j < k → cmpS (piece X j) (piece Y j) = 0) (hne : cmpS (piece X k) (piece Y k) ≠ 0) : ordP X Y = cmpS (piece X k) (piece Y k) := by
  rw [ordP_drop (Nat.le_of_lt hx) (Nat.le_of_lt hy) h, List.drop_eq_getElem_cons hx, List.drop_eq_getElem_cons hy]
  rw [piece_eq hx, piece_eq hy] at hne ⊢
  simp only [ordP, hne, if_false]
theorem ordP_left {X Y : List ByteArray} (hy : X.length < Y.length) (h : ∀ j, j < X.length → cmpS (piece X j) (piece Y j) = 0) : ordP X Y = -1 := by
  rw [ordP_drop (Nat.le_refl _) (Nat.le_of_lt hy) h, List.drop_eq_getElem_cons hy, List.drop_length]
  rfl
theorem ordP_both {X Y : List ByteArray} (hy : X.length = Y.length) (h : ∀ j, j < X.length → cmpS (piece X j) (piece Y j) = 0) : ordP X Y = 0 := by
  rw [ordP_drop (Nat.le_refl _) (Nat.le_of_eq hy) h, List.drop_length, hy, List.drop_length]
  rfl
theorem ordP_right {X Y : List ByteArray} (hy : Y.length < X.length) (h : ∀ j, j < Y.length → cmpS (piece X j) (piece Y j) = 0) : ordP X Y = 1 := by
  rw [ordP_drop (Nat.le_of_lt hy) (Nat.le_refl _) h, List.drop_eq_getElem_cons hy, List.drop_length]
  rfl
theorem slice_form' {t : TypeId} {w : World} {B : Nat} {v : Value} {l : List ByteArray} (h : OwnSs t w B v l) : ∃ p cap, v = .slice p l.length cap ∧ (0 < l.length → ∃ g, p = some ⟨g, 0, none⟩) := by
  rcases h.form with ⟨rfl, rfl⟩ | ⟨g, cap, rfl, hgB, hgw, hcap, hcapm⟩
  · exact ⟨none, 0, rfl, fun h => absurd h (by simp)⟩
  · exact ⟨_, _, rfl, fun _ => ⟨g, rfl⟩⟩
theorem parts_len' {s : ByteArray} (hs : s.size ≤ 1048576) : (pathParts s).length ≤ 8000000000 := by
  unfold pathParts
  split
  · simp
  · have := partsL_length 47 s.data.toList
    unfold partsS
    rw [List.length_map]
    have e := Lib.size_eq s
    omega
end Go.Creel
namespace Go.Proofs.YtaffgndickdbiaaDoor
open Go.Creel Go.RowKit
set_option maxRecDepth 100000 in
theorem isNaN_any (x : ByteArray) (w : World) : Calls Tryd.prog 116 #[.string x] w fun e w' => e = .returned (.bool false) ∧ w = w' := by
  have he : (x.toList == x.toList) = true := by simp
  go_enter Tryd.func116, Tryd.ntmps116
  go_wp2
  go_ret
  exact ⟨by simp, rfl⟩
set_option maxRecDepth 100000 in
theorem cmpS_any (x y : ByteArray) (w : World) : Calls Tryd.prog 104 #[.string x, .string y] w fun e w' => e = .returned (.int .i64 (cmpS x y)) ∧ w = w' := by
  rcases cmpS_cases x y with ⟨h1, h3⟩ | ⟨h1, h2, h3⟩ | ⟨h1, h2, h3⟩
  all_goals
    have HF := Lib.hid h3
    clear h3
    go_enter Tryd.func104, Tryd.ntmps104
    go_wp2_with (go_at_call 116; refine (isNaN_any _ _).mono ?_; rintro e w' ⟨rfl, rfl⟩)
    go_ret
    exact ⟨ret_i HF.out, rfl⟩
set_option maxRecDepth 100000 in
set_option maxHeartbeats 2000000 in
theorem cmpTexts_any (w : World) (B C : Nat) (v u : Value) (X Y : List ByteArray) (hX : X.length ≤ 8000000000) (hY : Y.length ≤ 8000000000) (hv : OwnSs 9 w B v X) (hu : OwnSs 9 w C u Y) :
    Calls Tryd.prog 72 #[v, u] w fun e w' => e = .returned (.int .i64 (ordP X Y)) ∧ Below w.heap.size w w' := by
  obtain ⟨p, cap, rfl, hp⟩ := slice_form' hv
  obtain ⟨q, caq, rfl, hq⟩ := slice_form' hu
  have HV := Lib.hid hv
  have HU := Lib.hid hu
  have HP := Lib.hid hp
  have HQ := Lib.hid hq
  clear hv hu hp hq
  go_enter Tryd.func72, Tryd.ntmps72
  go_wp2
  go_loopw [5, 11] (fun _ i wr => ∃ k : Nat, k ≤ X.length ∧ k ≤ Y.length ∧ i = .int .i64 k ∧ Hid (∀ j, j < k → cmpS (piece X j) (piece Y j) = 0) ∧ Below w.heap.size w wr) (fun _ i _ => X.length - (intOf i).toNat)
  case atStart => exact ⟨0, by omega, by omega, rfl, Lib.hid fun j hj => absurd hj (by omega), Below.refl _ _⟩
  case round =>
    obtain ⟨k, hk, hk2, rfl, HD, hb⟩ := hrel
    by_cases hlt : k < X.length
    · obtain ⟨g, rfl⟩ := HP.out (by omega)
      have hc := (HV.out.below hb).cell hlt
      by_cases hlt2 : k < Y.length
      · obtain ⟨g2, rfl⟩ := HQ.out (by omega)
        have hc2 := (HU.out.below hb).cell hlt2
        have HBB := Lib.hid hb
        clear hb
        by_cases h0 : cmpS (piece X k) (piece Y k) = 0
        · have H0 := Lib.hid h0
          go_wp2_with (go_at_call 104; refine (cmpS_any _ _ _).mono ?_; rintro e w' ⟨rfl, rfl⟩; rw [H0.out])
          go_roundw
          case rel =>
            refine ⟨k + 1, by omega, by omega, by go_num, Lib.hid fun j hj => ?_, HBB.out⟩
            by_cases e : j = k
            · rw [e]; exact H0.out
            · exact HD.out j (by omega)
          case measure => simp [intOf]; omega
        · have HF := Lib.hid (ordP_at hlt hlt2 HD.out h0)
          have HC := Lib.hid (cmpS_any (piece X k) (piece Y k))
          clear hc2
          have hc2 := (HU.out.below HBB.out).cell hlt2
          generalize cmpS (piece X k) (piece Y k) = c at *
          generalize piece X k = x at *
          generalize piece Y k = y at *
          go_wp2_with (go_at_call 104; refine (HC.out _).mono ?_; rintro e w' ⟨rfl, rfl⟩)
          go_ret
          exact ⟨ret_i HF.out, HBB.out⟩
      · obtain rfl : k = Y.length := by omega
        have HF := Lib.hid (ordP_right hlt HD.out)
        have HBB := Lib.hid hb
        clear hb
        go_wp2
        go_ret
        exact ⟨ret_i HF.out, HBB.out⟩
    · obtain rfl : k = X.length := by omega
      have HBB := Lib.hid hb
      clear hb
      by_cases hlt2 : X.length < Y.length
      · have HF := Lib.hid (ordP_left hlt2 HD.out)
        go_wp2
        go_ret
        exact ⟨ret_i HF.out, HBB.out⟩
      · have HF := Lib.hid (ordP_both (by omega) HD.out)
        go_wp2
        go_ret
        exact ⟨ret_i HF.out, HBB.out⟩
set_option maxRecDepth 100000 in
set_option maxHeartbeats 2000000 in
theorem PathOrder_any (a b : ByteArray) (w : World) (ha : a.size ≤ 1048576) (hb : b.size ≤ 1048576) :
    Calls Tryd.prog 47 #[.string a, .string b] w fun e w' => e = .returned (.int .i64 (ordP (pathParts a) (pathParts b))) ∧ Below w.heap.size w w' := by
  have hX : (pathParts a).length ≤ 8000000000 := parts_len' ha
  have hY : (pathParts b).length ≤ 8000000000 := parts_len' hb
  generalize hXX : pathParts a = X at *
  generalize hYY : pathParts b = Y at *
  have HXX := Lib.hid hXX
  have HYY := Lib.hid hYY
  clear hXX hYY
  go_enter Tryd.func47, Tryd.ntmps47
  go_wp2_with fail
  refine (PathParts_any _ _ (by omega)).mono ?_
  rintro e w1 ⟨v1, rfl, ho, hb1⟩
  rw [HXX.out] at ho
  have HB1 := Lib.hid hb1
  have HO1 := Lib.hid ho
  clear hb1 ho
  go_wp2_with fail
  refine (PathParts_any _ _ (by omega)).mono ?_
  rintro e w2 ⟨v2, rfl, ho, hb2⟩
  rw [HYY.out] at ho
  have HB2 := Lib.hid (HB1.out.trans (hb2.mono HB1.out.size))
  have HV := Lib.hid (HO1.out.below hb2)
  have HU := Lib.hid ho
  clear hb2 ho
  obtain ⟨p, cap, rfl, hp⟩ := slice_form' HV.out
  obtain ⟨q, caq, rfl, hq⟩ := slice_form' HU.out
  go_wp2
  have HP := Lib.hid hp
  have HQ := Lib.hid hq
  clear hp hq
  go_loopw [7] (fun i wr => ∃ k : Nat, k ≤ X.length ∧ k ≤ Y.length ∧ i = .int .i64 k ∧ Hid (∀ j, j < k → cmpS (piece X j) (piece Y j) = 0) ∧ Below w2.heap.size w2 wr) (fun i _ => X.length - (intOf i).toNat)
  case atStart => exact ⟨0, by omega, by omega, rfl, Lib.hid fun j hj => absurd hj (by omega), Below.refl _ _⟩
  case round =>
    obtain ⟨k, hk, hk2, rfl, HD, hbb⟩ := hrel
    by_cases hlt : k < X.length
    · by_cases hlt2 : k < Y.length
      · obtain ⟨g, rfl⟩ := HP.out (by omega)
        obtain ⟨g2, rfl⟩ := HQ.out (by omega)
        have hc := (HV.out.below hbb).cell hlt
        have hc2 := (HU.out.below hbb).cell hlt2
        have HBB := Lib.hid hbb
        clear hbb
        have HAT := Lib.hid (ordP_at hlt hlt2 HD.out)
        generalize hx : piece X k = x at *
        generalize hy : piece Y k = y at *
        have HX := Lib.hid hx
        have HY := Lib.hid hy
        clear hx hy
        rcases cmpS_cases x y with ⟨h1, h3⟩ | ⟨h1, h2, h3⟩ | ⟨h1, h2, h3⟩
        · have HF := Lib.hid ((HAT.out (by rw [h3]; decide)).trans h3)
          clear h3
          go_wp2
          go_quiet (fail)
          go_wp2
          go_ret
          exact ⟨ret_i HF.out, HB2.out.trans ((HBB.out.trans (below_draws _ _ _)).mono HB2.out.size)⟩
        · have H0 := Lib.hid h3
          clear h3
          go_wp2
          go_quiet (fail)
          go_wp2
          go_quiet (fail)
          go_wp2
          go_roundw
          case rel =>
            refine ⟨k + 1, by omega, by omega, by go_num, Lib.hid fun j hj => ?_, HBB.out.trans (below_draws _ _ _)⟩
            by_cases e : j = k
            · rw [e, HX.out, HY.out]; exact H0.out
            · exact HD.out j (by omega)
          case measure => simp [intOf]; omega
        · have HF := Lib.hid ((HAT.out (by rw [h3]; decide)).trans h3)
          clear h3
          go_wp2
          go_quiet (fail)
          go_wp2
          go_quiet (fail)
          go_wp2
          go_ret
          exact ⟨ret_i HF.out, HB2.out.trans (((HBB.out.trans (below_draws _ _ _)).trans (below_draws _ _ _)).mono HB2.out.size)⟩
      · obtain rfl : k = Y.length := by omega
        have HF := Lib.hid (ordP_right hlt HD.out)
        have HBB := Lib.hid hbb
        clear hbb
        go_wp2
        go_ret
        exact ⟨ret_i HF.out, HB2.out.trans (HBB.out.mono HB2.out.size)⟩
    · obtain rfl : k = X.length := by omega
      have HBB := Lib.hid hbb
      clear hbb
      by_cases hlt2 : X.length < Y.length
      · have HF := Lib.hid (ordP_left hlt2 HD.out)
        go_wp2
        go_ret
        exact ⟨ret_i HF.out, HB2.out.trans (HBB.out.mono HB2.out.size)⟩
      · have HF := Lib.hid (ordP_both (by omega) HD.out)
        go_wp2
        go_ret
        exact ⟨ret_i HF.out, HB2.out.trans (HBB.out.mono HB2.out.size)⟩
end Go.Proofs.YtaffgndickdbiaaDoor
namespace Go.Creel
open Go.RowKit
def upTo (P : List ByteArray) (k : Nat) : ByteArray := ofL (joinL ((P.take k).map fun p => p.data.toList))
theorem upTo_zero (P : List ByteArray) : upTo P 0 = ⟨#[]⟩ := by unfold upTo; simp [joinL]; rfl
theorem upTo_one {P : List ByteArray} (h : 0 < P.length) : upTo P 1 = ⟨#[]⟩ ++ piece P 0 := by
  unfold upTo
  rw [piece_eq h]
  cases P with
  | nil => simp at h
  | cons a t => 
    show ofL (joinL [a.data.toList]) = _
    simp only [joinL]
    apply ext_bytes
    rw [ofL_data]
    simp
theorem upTo_more {P : List ByteArray} {k : Nat} (h : k < P.length) (h0 : 0 < k) : upTo P (k + 1) = upTo P k ++ ofL [47] ++ piece P k := by
  unfold upTo
  rw [piece_eq h, List.take_succ_eq_append_getElem h, List.map_append, List.map_cons, List.map_nil, joinL_snoc, if_neg (by
    intro e
    have := congrArg List.length e
    rw [List.length_map, List.length_take, List.length_nil] at this
    omega)]
  apply ext_bytes
  rw [ofL_data]
  simp [ofL]
theorem upTo_parts (s : ByteArray) : upTo (partsS 47 s) ((partsS 47 s).length - 1) = pathUp s := by
  unfold upTo partsS pathUp
  rw [List.length_map, ← List.map_take, List.map_map, ← List.dropLast_eq_take]
  congr 2
  conv => rhs; rw [← List.map_id (partsL 47 s.data.toList).dropLast]
  apply List.map_congr_left
  intro x _
  simp [ofL_data]
theorem base_parts (s : ByteArray) : piece (partsS 47 s) ((partsS 47 s).length - 1) = pathBase s := by
  have h : (partsL 47 s.data.toList) ≠ [] := partsL_ne _ _
  unfold pathBase partsS
  have hl : 0 < (partsL 47 s.data.toList).length := List.length_pos_iff.2 h
  rw [piece_eq (by rw [List.length_map]; omega), List.getElem_map, List.getLastD_eq_getLast?, List.getLast?_eq_getElem?, List.getElem?_eq_getElem (by omega)]
  simp
theorem joinL_take : ∀ (L : List (List UInt8)) (k : Nat), (joinL (L.take k)).length ≤ (joinL L).length
  | [], k => by simp
  | [a], 0 => by simp [joinL]
  | [a], k + 1 => by simp
  | a :: b :: t, 0 => by simp [joinL]
  | a :: b :: t, 1 => by simp [joinL]
  | a :: b :: t, k + 2 => by
    have ih := joinL_take (b :: t) (k + 1)
    simp only [List.take_succ_cons] at ih ⊢
    simp only [joinL, List.length_append, List.length_cons]
    omega
theorem upTo_size (s : ByteArray) (k : Nat) : (upTo (partsS 47 s) k).size ≤ s.size := by
  unfold upTo partsS
  rw [← List.map_take, List.map_map, ofL_size]
  have h : (List.map ((fun p : ByteArray => p.data.toList) ∘ ofL) ((partsL 47 s.data.toList).take k)) = (partsL 47 s.data.toList).take k := by
    conv => rhs; rw [← List.map_id ((partsL 47 s.data.toList).take k)]
    apply List.map_congr_left
    intro x _
    simp [ofL_data]
  rw [h]
  refine Nat.le_trans (joinL_take _ _) ?_
  rw [joinL_parts, Lib.size_eq s]
  exact Nat.le_refl _
theorem piece_size (s : ByteArray) (k : Nat) : (piece (partsS 47 s) k).size ≤ s.size := by
  refine piece_le (fun p hp => ?_) k
  unfold partsS at hp
  obtain ⟨q, hq, rfl⟩ := List.mem_map.1 hp
  rw [ofL_size, Lib.size_eq s]
  exact partsL_sizes 47 s.data.toList q hq
end Go.Creel
namespace Go.Proofs.YtaffgndickdbiaaDoor
open Go.Creel Go.RowKit
set_option maxRecDepth 100000 in
set_option maxHeartbeats 2000000 in
theorem PathSplit_any (s : ByteArray) (w : World) (hs : s.size ≤ 4000000000) :
    Calls Tryd.prog 75 #[.string s] w fun e w' => e = .returned (.tuple #[.string (pathUp s), .string (pathBase s)]) ∧ Below w.heap.size w w' := by
  go_enter Tryd.func75, Tryd.ntmps75
  go_wp2_with fail
  refine (parts_any s 47 _ rfl _ hs).mono ?_
  rintro e w1 ⟨v, rfl, ho, hb⟩
  have hlen : (partsS 47 s).length ≤ s.size + 1 := by
    have := partsL_length 47 s.data.toList
    unfold partsS
    rw [List.length_map, Lib.size_eq s]; exact this
  have hne : 0 < (partsS 47 s).length := by
    unfold partsS
    rw [List.length_map]; exact List.length_pos_iff.2 (partsL_ne _ _)
  have HSU := Lib.hid (upTo_size s)
  have HSP := Lib.hid (piece_size s)
  have HU := Lib.hid (upTo_parts s)
  have HP := Lib.hid (base_parts s)
  generalize partsS 47 s = P at *
  have hform := ho.form
  rcases hform with ⟨_, e0⟩ | ⟨g, cap, hv, hgB, hgw, hcap, hcapm⟩
  · rw [e0] at hne; simp at hne
  · subst hv
    have HO := Lib.hid ho
    have HB := Lib.hid hb
    clear ho hb hgB hgw
    go_wp2
    go_loopw [5, 6] (fun u i wr => ∃ k : Nat, k ≤ P.length - 1 ∧ i = .int .i64 k ∧ u = .string (upTo P k) ∧ Below w1.heap.size w1 wr) (fun _ i _ => P.length - (intOf i).toNat)
    case atStart => exact ⟨0, by omega, rfl, by rw [upTo_zero], Below.refl _ _⟩
    case round =>
      obtain ⟨k, hk, rfl, rfl, hb⟩ := hrel
      have HC := Lib.hid (HO.out.below hb)
      have HBB := Lib.hid hb
      clear hb
      by_cases hlt : k < P.length - 1
      · have hc := HC.out.cell (j := k) (by omega)
        have hz1 := HSU.out k
        have hz2 := HSP.out k
        by_cases h0 : 0 < k
        · have HS := Lib.hid (upTo_more (P := P) (k := k) (by omega) h0)
          generalize upTo P k = u at *
          generalize piece P k = p at *
          go_wp2
          go_roundw
          case rel => exact ⟨k + 1, by omega, by go_num, by rw [HS.out]; rfl, HBB.out⟩
          case measure => simp [intOf]; omega
        · obtain rfl : k = 0 := by omega
          have HS := Lib.hid (upTo_one (P := P) (by omega))
          rw [← upTo_zero P] at HS
          generalize upTo P 0 = u at *
          generalize piece P 0 = p at *
          go_wp2
          go_roundw
          case rel => exact ⟨0 + 1, by omega, by go_num, by rw [HS.out], HBB.out⟩
          case measure => simp [intOf]; omega
      · obtain rfl : k = P.length - 1 := by omega
        have hc := HC.out.cell (j := P.length - 1) (by omega)
        have hpi : ((P.length : Int) - 1).toNat = P.length - 1 := by omega
        rw [HP.out] at hc
        rw [HU.out]
        go_wp2
        go_quiet (fail)
        go_wp2
        go_ret2
        exact ⟨rfl, HB.out.trans ((HBB.out.trans (below_draws _ _ _)).mono HB.out.size)⟩
end Go.Proofs.YtaffgndickdbiaaDoor
namespace Go.Creel
theorem conv_bytes {P : Program} {w : World} {N : Nat} {v : Value} {l : List UInt8} (src e dst : TypeId) (hs : P.underlying src = some (.slice e)) (he : P.underlying e = some (.int .u8)) (hd : P.underlying dst = some .string)
    (h : SliceC N 1 ByteC w [v] l) : (convert src dst v).run P w = .ok (.string (ofL l)) w := by
  rcases bytes_cases h with ⟨a, cap, rfl, rfl⟩ | ⟨b, off, cap, rfl, hpos, hle, hm, _, hc⟩
  · cases a with
    | none => exact run_convert_bytes_nil w src e hs he 0 cap dst hd
    | some a =>
      rw [run_convert_bytes_string w src dst e _ 0 cap hs he hd, run_bytesToString w a 0 cap [] (by simp [loadCells, loadCellsFrom])]
      rfl
  · have hx : strOfNums (l.map fun c => (c.toNat : Int)) = ofL l := by
      apply ext_bytes
      rw [strOfNums_data, ofL_data, List.map_map]
      conv => rhs; rw [← List.map_id l]
      apply List.map_congr_left
      intro c _
      simp
    rw [← hx]
    refine run_convert_bytes_arg w src e hs he b off l.length cap _ (by simp) (fun i hi => ?_) dst hd
    rw [hc i hi]
    simp [bl, List.getD_eq_getElem?_getD, List.getElem?_eq_getElem hi]
theorem ofL_inj {a b : List UInt8} (h : ofL a = ofL b) : a = b := by
  have := congrArg (fun s => s.data.toList) h
  simpa [ofL_data] using this
end Go.Creel
namespace Go.Proofs.YtaffgndickdbiaaDoor
open Go.Creel Go.RowKit
theorem conv (w : World) {N : Nat} {v : Value} {l : List UInt8} (h : SliceC N 1 ByteC w [v] l) : (convert 38 9 v).run Tryd.prog w = .ok (.string (ofL l)) w :=
  conv_bytes _ _ _ Tryd.underlying38 Tryd.underlying5 Tryd.underlying9 h
set_option maxRecDepth 100000 in
theorem sameBytes_eq {N M : Nat} (v u : Value) (l : List UInt8) (w : World) (h1 : SliceC N 1 ByteC w [v] l) (h2 : SliceC M 1 ByteC w [u] l) :
    Calls Tryd.prog 76 #[v, u] w fun e w' => e = .returned (.bool true) ∧ w = w' := by
  have c1 := conv w h1
  have c2 := conv w h2
  clear h1 h2
  go_enter Tryd.func76, Tryd.ntmps76
  go_wp2
  go_ret
  exact ⟨rfl, rfl⟩
end Go.Proofs.YtaffgndickdbiaaDoor
