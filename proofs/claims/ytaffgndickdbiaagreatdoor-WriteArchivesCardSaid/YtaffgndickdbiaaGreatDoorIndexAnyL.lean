/-
  strings.ContainsAny of a text and "=\n": texts of any length.
-/
import Derived.Test.YtaffgndickdbiaaGreatDoorIndexAny
namespace Go.Creel
set_option linter.unusedVariables false
open Go.RowKit
theorem indexAny_bad : ∀ l : List UInt8, decide (0 ≤ Lib.indexAny l [61, 10]) = l.any (fun b => b == 61 || b == 10)
  | [] => rfl
  | b :: l => by
    have ih := indexAny_bad l
    have hge := Lib.indexAny_ge [61, 10] l
    unfold Lib.indexAny
    have hc : ([61, 10] : List UInt8).contains b = (b == 61 || b == 10) := by simp [List.contains, List.elem]; cases (b == 61) <;> cases (b == 10) <;> rfl
    rw [hc, List.any_cons]
    cases hb : (b == 61 || b == 10) with
    | true => simp
    | false =>
      rw [Bool.false_or, ← ih]
      by_cases h1 : Lib.indexAny l [61, 10] = -1
      · simp [h1]
      · have : (Lib.indexAny l [61, 10] == -1) = false := by rw [beq_eq_false_iff_ne]; exact h1
        rw [if_neg (by simp), if_neg (by rw [this]; simp)]
        exact decide_eq_decide.2 ⟨fun h => by omega, fun h => by omega⟩
theorem any_keyBad (s : ByteArray) : s.data.toList.any (fun b => b == 61 || b == 10) = keyBad s := by
  unfold keyBad hasB
  induction s.data.toList with
  | nil => rfl
  | cons b l ih => simp only [List.any_cons, ih]; cases b == 61 <;> cases b == 10 <;> simp
end Go.Creel
namespace Go.Proofs.YtaffgndickdbiaaGreatDoor
set_option linter.unusedVariables false
set_option linter.unusedSimpArgs false
open Go.Creel Go.RowKit
theorem ascii_chars : ∀ (j : Nat) b, (ByteArray.mk #[61, 10]).data.toList[j]? = some b → b.toNat < 128 := by
  intro j b h
  have : j = 0 ∨ j = 1 ∨ 2 ≤ j := by omega
  rcases this with rfl | rfl | hj
  · cases h; decide
  · cases h; decide
  · have : (ByteArray.mk #[61, 10]).data.toList[j]? = none := List.getElem?_eq_none (by show 2 ≤ j; exact hj)
    rw [this] at h; cases h
theorem IndexAny_any (s : ByteArray) (w : World) (hs : s.size ≤ 4000000000) :
    Calls Tryz.prog 222 #[.string s, .string ⟨#[61, 10]⟩] w (RetIdx w (keyBad s)) := by
  by_cases h8 : s.size ≤ 8
  · exact IndexAny_short s w h8
  · refine (Tryz.strings_IndexAny_long (fun w => by kernel_rfl) s ⟨#[61, 10]⟩ w (show 2 ≤ 2 by omega) (by omega) (by omega) (show 2 < 4294967281 by omega) ascii_chars).mono ?_
    rintro e w' ⟨rfl, rfl⟩
    exact ⟨_, rfl, (indexAny_bad _).trans (any_keyBad s), ((Below.refl _ _).alloc (Nat.le_refl _) _).alloc (by simp) _⟩
set_option maxRecDepth 100000 in
theorem ContainsAny_any (s : ByteArray) (w : World) (hs : s.size ≤ 4000000000) :
    Calls Tryz.prog 200 #[.string s, .string ⟨#[61, 10]⟩] w fun e w' => e = .returned (.bool (keyBad s)) ∧ Below w.heap.size w w' := by
  have HI := Lib.hid (IndexAny_any s w hs)
  go_enter Tryz.func200, Tryz.ntmps200
  go_wp2_with fail
  refine HI.out.mono ?_
  rintro e w2 ⟨m, rfl, hm, hb⟩
  have HB := Lib.hid hb
  clear hb
  go_wp2
  go_ret
  exact ⟨rfl, HB.out⟩
end Go.Proofs.YtaffgndickdbiaaGreatDoor
