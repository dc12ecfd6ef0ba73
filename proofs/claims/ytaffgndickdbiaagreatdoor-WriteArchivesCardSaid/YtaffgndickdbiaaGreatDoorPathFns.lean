/-
  path.Parts, path.Up, path.Base and the references of package path.
-/
import Derived.Test.YtaffgndickdbiaaGreatDoorPathCheck
import Derived.Lib.LastIndexByte
namespace Go.Creel
set_option linter.unusedVariables false
open Go.RowKit
def joinL : List (List UInt8) → List UInt8
  | [] => []
  | [h] => h
  | h :: t => h ++ 47 :: joinL t
theorem joinL_cons {h : List UInt8} {t : List (List UInt8)} (ht : t ≠ []) : joinL (h :: t) = h ++ 47 :: joinL t := by
  cases t with
  | nil => exact absurd rfl ht
  | cons a b => rfl
theorem joinL_parts : ∀ l, joinL (partsL 47 l) = l
  | [] => rfl
  | x :: l => by
    have ih := joinL_parts l
    by_cases h : x = 47
    · have : partsL 47 (x :: l) = [] :: partsL 47 l := by
        conv => lhs; unfold partsL
        rw [if_pos h]
      rw [this, joinL_cons (partsL_ne _ _), ih, h]; rfl
    · rw [partsL_cons h]
      cases hp : partsL 47 l with
      | nil => exact absurd hp (partsL_ne _ _)
      | cons a t =>
        rw [hp] at ih
        cases t with
        | nil => simp only [joinL] at ih ⊢; rw [ih]
        | cons b t => simp only [joinL, List.cons_append] at ih ⊢; rw [ih]
theorem joinL_snoc : ∀ (L : List (List UInt8)) (x : List UInt8), joinL (L ++ [x]) = if L = [] then x else joinL L ++ 47 :: x
  | [], x => rfl
  | [a], x => by simp [joinL]
  | a :: b :: t, x => by
    have ih := joinL_snoc (b :: t) x
    rw [if_neg (by simp)] at ih ⊢
    show a ++ 47 :: joinL ((b :: t) ++ [x]) = (a ++ 47 :: joinL (b :: t)) ++ 47 :: x
    rw [ih]; simp
theorem partsL_free {c : UInt8} : ∀ {l : List UInt8}, (∀ x ∈ l, x ≠ c) → partsL c l = [l]
  | [], _ => rfl
  | a :: l, h => by
    rw [partsL_cons (h a (by simp)), partsL_free (fun x hx => h x (by simp [hx]))]
theorem partsL_mid {c : UInt8} {b : List UInt8} (hb : ∀ x ∈ b, x ≠ c) : ∀ a : List UInt8, partsL c (a ++ c :: b) = partsL c a ++ [b]
  | [] => by simp [partsL, partsL_free hb]
  | x :: a => by
    have ih := partsL_mid hb a
    by_cases h : x = c
    · simp only [List.cons_append, partsL, h, if_true]
      rw [ih]
    · rw [List.cons_append, partsL_cons h, partsL_cons h, ih]
      cases hp : partsL c a with
      | nil => exact absurd hp (partsL_ne _ _)
      | cons h t => rfl
theorem extract_whole (s : ByteArray) : s.extract 0 s.size = s := by
  apply ext_bytes
  rw [Lib.extract_data, Lib.size_eq s, List.drop_zero, Nat.sub_zero]
  exact List.take_length
def pathUp (s : ByteArray) : ByteArray := ofL (joinL (partsL 47 s.data.toList).dropLast)
def pathBase (s : ByteArray) : ByteArray := ofL ((partsL 47 s.data.toList).getLastD [])
def pathParts (s : ByteArray) : List ByteArray := if s.size = 0 then [] else partsS 47 s
theorem data_at (s : ByteArray) (j : Nat) (h : j < s.size) : (s.data[j]!).toNat = byt s j := by
  rw [getElem!_pos s.data j (by simpa using h)]
  unfold byt
  rw [List.getD_eq_getElem?_getD, List.getElem?_eq_getElem (by simpa using h)]
  simp
theorem last_cases (s : ByteArray) : (Lib.lastIndexByte s 47 = -1 ∧ pathUp s = ByteArray.empty ∧ pathBase s = s) ∨
    ∃ i : Nat, Lib.lastIndexByte s 47 = i ∧ i < s.size ∧ pathUp s = s.extract 0 i ∧ pathBase s = s.extract (i + 1) s.size := by
  have hsz : s.size = s.data.toList.length := Lib.size_eq s
  rcases Lib.lastIndexByte_spec s 47 with ⟨h1, h2⟩ | ⟨i, h1, h2, h3, h4⟩
  · left
    have hf : ∀ x ∈ s.data.toList, x ≠ 47 := by
      intro x hx e
      obtain ⟨k, hk, rfl⟩ := List.getElem_of_mem hx
      have hk' : k < s.size := by omega
      have := h2 k hk'
      rw [data_at s k hk', (get_byt s k hk' 47).1 e] at this
      exact this rfl
    have hp := partsL_free hf
    refine ⟨h1, ?_, ?_⟩
    · unfold pathUp; rw [hp]; rfl
    · unfold pathBase; rw [hp]; exact ofL_of s
  · right
    have hi : byt s i = 47 := by rw [← data_at s i h1]; omega
    have hsplit : s.data.toList = s.data.toList.take i ++ 47 :: s.data.toList.drop (i + 1) := by
      have e := (get_byt s i h1 47).2 hi
      rw [← e, ← List.drop_eq_getElem_cons, List.take_append_drop]
    have hf : ∀ x ∈ s.data.toList.drop (i + 1), x ≠ 47 := by
      intro x hx e
      obtain ⟨k, hk, rfl⟩ := List.getElem_of_mem hx
      rw [List.getElem_drop] at e
      have hk' : i + 1 + k < s.size := by simp at hk; omega
      have := h4 (i + 1 + k) (by omega) hk'
      rw [data_at s _ hk', (get_byt s _ hk' 47).1 e] at this
      exact this rfl
    have hp : partsL 47 s.data.toList = partsL 47 (s.data.toList.take i) ++ [s.data.toList.drop (i + 1)] := by
      conv => lhs; rw [hsplit]
      exact partsL_mid hf _
    refine ⟨i, h2, h1, ?_, ?_⟩
    · unfold pathUp
      rw [hp, List.dropLast_concat, joinL_parts]
      apply ext_bytes
      rw [ofL_data, Lib.extract_data]; simp
    · unfold pathBase
      rw [hp]
      apply ext_bytes
      rw [ofL_data, Lib.extract_data]
      have hd : (s.data.toList.drop (i + 1)).length ≤ s.size - (i + 1) := by rw [List.length_drop]; omega
      rw [List.take_of_length_le hd]
      simp
end Go.Creel
namespace Go.Proofs.YtaffgndickdbiaaGreatDoor
set_option linter.unusedVariables false
open Go.Creel Go.RowKit
set_option maxRecDepth 100000 in
theorem Up_any (s : ByteArray) (w : World) (hs : s.size ≤ 4000000000) :
    Calls Tryz.prog 114 #[.string s] w fun e w' => e = .returned (.string (pathUp s)) ∧ w = w' := by
  have HL := Lib.hid (fun (w : World) => Tryz.strings_LastIndexByte s 47 (by omega) w)
  rcases last_cases s with ⟨h1, h2, h3⟩ | ⟨i, h1, h2, h3, h4⟩
  · have HF := Lib.hid h2
    have hd : decide (Lib.lastIndexByte s 47 < 0) = true := by rw [h1]; rfl
    clear h1 h2 h3
    go_enter Tryz.func114, Tryz.ntmps114
    go_wp2_with (go_at_call 162; refine (HL.out _).mono ?_; rintro e w' ⟨rfl, rfl⟩)
    go_ret
    exact ⟨ret_s HF.out, rfl⟩
  · have HF := Lib.hid h3
    have HH := Lib.hid h1
    clear h1 h3 h4
    go_enter Tryz.func114, Tryz.ntmps114
    go_wp2_with (go_at_call 162; refine (HL.out _).mono ?_; rintro e w' ⟨rfl, rfl⟩; rw [HH.out])
    go_ret
    exact ⟨ret_s HF.out, rfl⟩
set_option maxRecDepth 100000 in
theorem Parts_any (s : ByteArray) (w : World) (hM : MaxOk w) (hs : s.size ≤ 4000000000) :
    Calls Tryz.prog 161 #[.string s] w (RetSs 9 w (pathParts s)) := by
  by_cases h0 : s.size = 0
  · have HF := Lib.hid (show pathParts s = [] by unfold pathParts; rw [if_pos h0])
    have he := empty_t h0
    clear h0
    go_enter Tryz.func161, Tryz.ntmps161
    go_wp2
    go_ret
    rw [HF.out]
    exact ⟨_, rfl, World.ownsRow_nil w _ _ 1, Below.refl _ _⟩
  · have HF := Lib.hid (show pathParts s = partsS 47 s by unfold pathParts; rw [if_neg h0])
    have he := empty_f h0
    have HM := Lib.hid hM
    clear h0 hM
    go_enter Tryz.func161, Tryz.ntmps161
    go_wp2_with fail
    refine (SplitSlash_any s _ HM.out hs).mono ?_
    rintro e w' ⟨v, rfl, ho, hb⟩
    have HO := Lib.hid ho
    have HB := Lib.hid hb
    clear ho hb
    go_wp2
    go_ret
    rw [HF.out]
    exact ⟨_, rfl, HO.out, HB.out⟩
set_option maxRecDepth 100000 in
theorem PathParts_any (s : ByteArray) (w : World) (hs : s.size ≤ 4000000000) :
    Calls Tryz.prog 163 #[.string s] w (RetSs 9 w (pathParts s)) := by
  by_cases h0 : s.size = 0
  · have HF := Lib.hid (show pathParts s = [] by unfold pathParts; rw [if_pos h0])
    have he := empty_t h0
    clear h0
    go_enter Tryz.func163, Tryz.ntmps163
    go_wp2
    go_ret
    rw [HF.out]
    exact ⟨_, rfl, World.ownsRow_nil w _ _ 1, Below.refl _ _⟩
  · have HF := Lib.hid (show pathParts s = partsS 47 s by unfold pathParts; rw [if_neg h0])
    have he := empty_f h0
    clear h0
    go_enter Tryz.func163, Tryz.ntmps163
    go_wp2_with fail
    refine (parts_any s 47 _ rfl _ hs).mono ?_
    rintro e w' ⟨v, rfl, ho, hb⟩
    have HO := Lib.hid ho
    have HB := Lib.hid hb
    clear ho hb
    go_wp2
    go_ret
    rw [HF.out]
    exact ⟨_, rfl, HO.out, HB.out⟩
end Go.Proofs.YtaffgndickdbiaaGreatDoor
