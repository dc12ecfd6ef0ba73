/-
  cut.One and its reference.
-/
import Derived.Test.YtbnimegflfilbaaCut
namespace Go.Creel
set_option linter.unusedVariables false
/-- the path of two parts -/
def joinS (p n : ByteArray) : ByteArray := if p.size = 0 then n else p ++ ofL [47] ++ n
open Classical in
noncomputable def cutOne (p n : ByteArray) : ByteArray × Int :=
  if n.size = 0 ∨ 100 < n.size ∨ 155 < p.size then (ByteArray.empty, 1)
  else if cutTwo (joinS p n) = (p, n, 0) then (joinS p n, 0) else (ByteArray.empty, 3)
theorem cutOne_size {p n : ByteArray} (h : n.size = 0 ∨ 100 < n.size ∨ 155 < p.size) : cutOne p n = (ByteArray.empty, 1) := by unfold cutOne; rw [if_pos h]
theorem cutOne_yes {p n : ByteArray} (h : ¬ (n.size = 0 ∨ 100 < n.size ∨ 155 < p.size)) (h2 : cutTwo (joinS p n) = (p, n, 0)) : cutOne p n = (joinS p n, 0) := by unfold cutOne; rw [if_neg h, if_pos h2]
theorem cutOne_no {p n : ByteArray} (h : ¬ (n.size = 0 ∨ 100 < n.size ∨ 155 < p.size)) (h2 : cutTwo (joinS p n) ≠ (p, n, 0)) : cutOne p n = (ByteArray.empty, 3) := by unfold cutOne; rw [if_neg h, if_neg h2]
theorem sne_t {a b : ByteArray} (h : a ≠ b) : (!(a.toList == b.toList)) = true := by rw [seq_f h]; rfl
theorem sne_f {a b : ByteArray} (h : a = b) : (!(a.toList == b.toList)) = false := by rw [seq_t h]; rfl
end Go.Creel
namespace Go.Proofs.Ytbnimegflfilbaa
set_option linter.unusedVariables false
open Go.Creel Go.RowKit
set_option maxRecDepth 100000 in
set_option maxHeartbeats 2000000 in
theorem One_any (p n : ByteArray) (w : World) (hp : p.size ≤ maxLen) (hn : n.size ≤ maxLen) :
    Calls Try.prog 6 #[.string p, .string n] w fun e w' => e = .returned (.tuple #[.string (cutOne p n).1, .int .i64 (cutOne p n).2]) ∧ Below w.heap.size w w' := by
  unfold maxLen at hp hn
  by_cases h : n.size = 0 ∨ 100 < n.size ∨ 155 < p.size
  · have HF := Lib.hid (cutOne_size h)
    rcases (show n.size = 0 ∨ (1 ≤ n.size ∧ 100 < n.size) ∨ (1 ≤ n.size ∧ n.size ≤ 100 ∧ 155 < p.size) by omega) with h1 | ⟨h1, h2⟩ | ⟨h1, h2, h3⟩
    · have he := empty_t h1
      have h1' : ((n.size : Int) < 1) := by omega
      clear h h1
      go_enter Try.func6, Try.ntmps6
      go_wp2
      go_ret2
      exact ⟨ret_si HF.out, Below.refl _ _⟩
    all_goals
      have he := empty_f (a := n) (by omega)
      clear h
      go_enter Try.func6, Try.ntmps6
      go_wp2
      go_ret2
      exact ⟨ret_si HF.out, Below.refl _ _⟩
  · have h1 : 1 ≤ n.size := by omega
    have h2 : n.size ≤ 100 := by omega
    have h3 : p.size ≤ 155 := by omega
    have hen := empty_f (a := n) (by omega)
    have HN := Lib.hid h
    clear h
    have key : ∀ (s : ByteArray) (w : World), joinS p n = s → s.size ≤ 256 → Calls Try.prog 13 #[.string s] w fun e w' => Below w.heap.size w w' ∧ ∃ a b e0, e = .returned (.tuple #[.string a, .string b, .int .i64 e0]) ∧
        ((e0 = 0 ∧ a = p ∧ b = n ∧ Hid (cutOne p n = (s, 0))) ∨ (¬ (e0 = 0 ∧ a = p ∧ b = n) ∧ Hid (cutOne p n = (ByteArray.empty, 3)))) := by
      intro s w hs hsz
      refine (Two_any s w (by unfold maxLen; omega)).mono ?_
      rintro e w' ⟨rfl, hb⟩
      refine ⟨hb, _, _, _, rfl, ?_⟩
      subst hs
      by_cases hc : cutTwo (joinS p n) = (p, n, 0)
      · left
        rw [hc]
        exact ⟨rfl, rfl, rfl, cutOne_yes HN.out hc⟩
      · right
        exact ⟨fun ⟨a, b, c⟩ => hc (Prod.ext b (Prod.ext c a)), cutOne_no HN.out hc⟩
    have KEY := Lib.hid key
    clear key
    by_cases h0 : p.size = 0
    · have hj : joinS p n = n := by unfold joinS; rw [if_pos h0]
      have HJ := Lib.hid hj
      have he := empty_t h0
      have he2 : (!p.toList.isEmpty) = false := by rw [he]; rfl
      clear h0 hj
      go_enter Try.func6, Try.ntmps6
      go_wp2_with fail
      refine (KEY.out n _ HJ.out (by omega)).mono ?_
      rintro e w' ⟨hb, a, b, e0, rfl, ⟨rfl, rfl, rfl, HF⟩ | ⟨hno, HF⟩⟩
      · have HB := Lib.hid hb
        clear hb
        go_wp2
        go_ret2
        exact ⟨ret_si HF.out, HB.out⟩
      · have HB := Lib.hid hb
        have HNO := Lib.hid hno
        clear hb hno
        by_cases c1 : e0 = 0
        · have d1 : (e0 != 0) = false := by simp [c1]
          by_cases c2 : a = p
          · have d2 := sne_f c2
            have c3 : b ≠ n := fun c3 => HNO.out ⟨c1, c2, c3⟩
            have d3 := sne_t c3
            clear c1 c2 c3
            go_wp2
            go_ret2
            exact ⟨ret_si HF.out, HB.out⟩
          · have d2 := sne_t c2
            clear c1 c2
            go_wp2
            go_ret2
            exact ⟨ret_si HF.out, HB.out⟩
        · have d1 : (e0 != 0) = true := by simpa using c1
          clear c1
          go_wp2
          go_ret2
          exact ⟨ret_si HF.out, HB.out⟩
    · have hj : joinS p n = p ++ ofL [47] ++ n := by unfold joinS; rw [if_neg h0]
      have HJ := Lib.hid hj
      have he := empty_f h0
      have he2 : (!p.toList.isEmpty) = true := by rw [he]; rfl
      have HZ := Lib.hid (show (p ++ ofL [47] ++ n).size ≤ 256 by simp [ofL_size]; omega)
      clear h0 hj
      go_enter Try.func6, Try.ntmps6
      go_wp2_with fail
      refine (KEY.out _ _ (by exact HJ.out) (by exact HZ.out)).mono ?_
      rintro e w' ⟨hb, a, b, e0, rfl, ⟨rfl, rfl, rfl, HF⟩ | ⟨hno, HF⟩⟩
      · have HB := Lib.hid hb
        clear hb
        go_wp2
        go_ret2
        exact ⟨ret_si HF.out, HB.out⟩
      · have HB := Lib.hid hb
        have HNO := Lib.hid hno
        clear hb hno
        by_cases c1 : e0 = 0
        · have d1 : (e0 != 0) = false := by simp [c1]
          by_cases c2 : a = p
          · have d2 := sne_f c2
            have c3 : b ≠ n := fun c3 => HNO.out ⟨c1, c2, c3⟩
            have d3 := sne_t c3
            clear c1 c2 c3
            go_wp2
            go_ret2
            exact ⟨ret_si HF.out, HB.out⟩
          · have d2 := sne_t c2
            clear c1 c2
            go_wp2
            go_ret2
            exact ⟨ret_si HF.out, HB.out⟩
        · have d1 : (e0 != 0) = true := by simpa using c1
          clear c1
          go_wp2
          go_ret2
          exact ⟨ret_si HF.out, HB.out⟩
set_option maxRecDepth 100000 in
set_option maxHeartbeats 2000000 in
theorem CutOne_any (p n : ByteArray) (w : World) (hp : p.size ≤ maxLen) (hn : n.size ≤ maxLen) :
    Calls Try.prog 7 #[.string p, .string n] w fun e w' => e = .returned (.tuple #[.string (cutOne p n).1, .int .i64 (cutOne p n).2]) ∧ Below w.heap.size w w' := by
  unfold maxLen at hp hn
  by_cases h : n.size = 0 ∨ 100 < n.size ∨ 155 < p.size
  · have HF := Lib.hid (cutOne_size h)
    rcases (show n.size = 0 ∨ (1 ≤ n.size ∧ 100 < n.size) ∨ (1 ≤ n.size ∧ n.size ≤ 100 ∧ 155 < p.size) by omega) with h1 | ⟨h1, h2⟩ | ⟨h1, h2, h3⟩
    · have he := empty_t h1
      have h1' : ((n.size : Int) < 1) := by omega
      clear h h1
      go_enter Try.func7, Try.ntmps7
      go_wp2
      go_ret2
      exact ⟨ret_si HF.out, Below.refl _ _⟩
    all_goals
      have he := empty_f (a := n) (by omega)
      clear h
      go_enter Try.func7, Try.ntmps7
      go_wp2
      go_ret2
      exact ⟨ret_si HF.out, Below.refl _ _⟩
  · have h1 : 1 ≤ n.size := by omega
    have h2 : n.size ≤ 100 := by omega
    have h3 : p.size ≤ 155 := by omega
    have hen := empty_f (a := n) (by omega)
    have HN := Lib.hid h
    clear h
    have key : ∀ (s : ByteArray) (w : World), joinS p n = s → s.size ≤ 256 → Calls Try.prog 14 #[.string s] w fun e w' => Below w.heap.size w w' ∧ ∃ a b e0, e = .returned (.tuple #[.string a, .string b, .int .i64 e0]) ∧
        ((e0 = 0 ∧ a = p ∧ b = n ∧ Hid (cutOne p n = (s, 0))) ∨ (¬ (e0 = 0 ∧ a = p ∧ b = n) ∧ Hid (cutOne p n = (ByteArray.empty, 3)))) := by
      intro s w hs hsz
      refine (CutTwo_any s w (by unfold maxLen; omega)).mono ?_
      rintro e w' ⟨rfl, hb⟩
      refine ⟨hb, _, _, _, rfl, ?_⟩
      subst hs
      by_cases hc : cutTwo (joinS p n) = (p, n, 0)
      · left
        rw [hc]
        exact ⟨rfl, rfl, rfl, cutOne_yes HN.out hc⟩
      · right
        exact ⟨fun ⟨a, b, c⟩ => hc (Prod.ext b (Prod.ext c a)), cutOne_no HN.out hc⟩
    have KEY := Lib.hid key
    clear key
    by_cases h0 : p.size = 0
    · have hj : joinS p n = n := by unfold joinS; rw [if_pos h0]
      have HJ := Lib.hid hj
      have he := empty_t h0
      have he2 : (!p.toList.isEmpty) = false := by rw [he]; rfl
      clear h0 hj
      go_enter Try.func7, Try.ntmps7
      go_wp2_with fail
      refine (KEY.out n _ HJ.out (by omega)).mono ?_
      rintro e w' ⟨hb, a, b, e0, rfl, ⟨rfl, rfl, rfl, HF⟩ | ⟨hno, HF⟩⟩
      · have HB := Lib.hid hb
        clear hb
        go_wp2
        go_ret2
        exact ⟨ret_si HF.out, HB.out⟩
      · have HB := Lib.hid hb
        have HNO := Lib.hid hno
        clear hb hno
        by_cases c1 : e0 = 0
        · have d1 : (e0 != 0) = false := by simp [c1]
          by_cases c2 : a = p
          · have d2 := sne_f c2
            have c3 : b ≠ n := fun c3 => HNO.out ⟨c1, c2, c3⟩
            have d3 := sne_t c3
            clear c1 c2 c3
            go_wp2
            go_ret2
            exact ⟨ret_si HF.out, HB.out⟩
          · have d2 := sne_t c2
            clear c1 c2
            go_wp2
            go_ret2
            exact ⟨ret_si HF.out, HB.out⟩
        · have d1 : (e0 != 0) = true := by simpa using c1
          clear c1
          go_wp2
          go_ret2
          exact ⟨ret_si HF.out, HB.out⟩
    · have hj : joinS p n = p ++ ofL [47] ++ n := by unfold joinS; rw [if_neg h0]
      have HJ := Lib.hid hj
      have he := empty_f h0
      have he2 : (!p.toList.isEmpty) = true := by rw [he]; rfl
      have HZ := Lib.hid (show (p ++ ofL [47] ++ n).size ≤ 256 by simp [ofL_size]; omega)
      clear h0 hj
      go_enter Try.func7, Try.ntmps7
      go_wp2_with fail
      refine (KEY.out _ _ (by exact HJ.out) (by exact HZ.out)).mono ?_
      rintro e w' ⟨hb, a, b, e0, rfl, ⟨rfl, rfl, rfl, HF⟩ | ⟨hno, HF⟩⟩
      · have HB := Lib.hid hb
        clear hb
        go_wp2
        go_ret2
        exact ⟨ret_si HF.out, HB.out⟩
      · have HB := Lib.hid hb
        have HNO := Lib.hid hno
        clear hb hno
        by_cases c1 : e0 = 0
        · have d1 : (e0 != 0) = false := by simp [c1]
          by_cases c2 : a = p
          · have d2 := sne_f c2
            have c3 : b ≠ n := fun c3 => HNO.out ⟨c1, c2, c3⟩
            have d3 := sne_t c3
            clear c1 c2 c3
            go_wp2
            go_ret2
            exact ⟨ret_si HF.out, HB.out⟩
          · have d2 := sne_t c2
            clear c1 c2
            go_wp2
            go_ret2
            exact ⟨ret_si HF.out, HB.out⟩
        · have d1 : (e0 != 0) = true := by simpa using c1
          clear c1
          go_wp2
          go_ret2
          exact ⟨ret_si HF.out, HB.out⟩
end Go.Proofs.Ytbnimegflfilbaa
