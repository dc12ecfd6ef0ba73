/-
  Records read back (P7.3): the plain words, and an own slice of records.
-/
import Derived.Test.YtafokokmkbgcjaaDoorRecBox
import Derived.Test.YtafokokmkbgcjaaDoorPaxSpec
import Derived.Test.YtafokokmkbgcjaaDoorAppend
namespace Go.Creel
set_option linter.unusedVariables false
set_option linter.unusedSimpArgs false
open Go.RowKit
/-! ### An own slice -/
def Rec.cl (r : Rec) : List Value := [.string r.key, .string r.value]
theorem Rec.cl_len (r : Rec) : r.cl.length = 2 := rfl
theorem flatC_len : ∀ l : List Rec, (l.flatMap Rec.cl).length = l.length * 2
  | [] => rfl
  | x :: r => by rw [List.flatMap_cons, List.length_append, flatC_len r, Rec.cl_len, List.length_cons]; omega
theorem flatC_at : ∀ (l : List Rec) (k j : Nat), k < l.length → j < 2 → (l.flatMap Rec.cl)[k * 2 + j]? = (rk l k).cl[j]?
  | [], _, _, h, _ => absurd h (by simp)
  | x :: r, 0, j, _, hj => by
    rw [List.flatMap_cons, Nat.zero_mul, Nat.zero_add, List.getElem?_append_left (by rw [Rec.cl_len]; omega)]
    rfl
  | x :: r, k + 1, j, hk, hj => by
    rw [List.flatMap_cons, List.getElem?_append_right (by rw [Rec.cl_len]; omega), Rec.cl_len]
    have e : (k + 1) * 2 + j - 2 = k * 2 + j := by omega
    rw [e, flatC_at r k j (by simpa using hk) hj]
    rfl
def OwnRecs (t : TypeId) (w : World) (B : Nat) (v : Value) (l : List Rec) : Prop := w.ownsRow B t 2 v l.length (l.flatMap Rec.cl)
variable {t : TypeId} {w w' : World} {B : Nat} {v v' : Value} {l m : List Rec}
theorem OwnRecs.nil (t : TypeId) (w : World) (B : Nat) : OwnRecs t w B (.slice none 0 0) [] := World.ownsRow_nil w B t 2
theorem OwnRecs.below (h : OwnRecs t w B v l) (hb : Below w.heap.size w w') : OwnRecs t w' B v l := by
  refine ⟨h.1, ?_⟩
  rcases h.2 with h0 | ⟨g, cap, cur, hv, hbg, hg, r⟩
  · exact .inl h0
  · refine .inr ⟨g, cap, cur, hv, hbg, ?_, r⟩
    rw [hb.block g (Array.getElem?_eq_some_iff.1 hg).1]
    exact hg
theorem OwnRecs.form (h : OwnRecs t w B v l) : (v = .slice none 0 0 ∧ l = []) ∨ ∃ g cap, v = .slice (some ⟨g, 0, none⟩) l.length cap ∧ B ≤ g ∧ g < w.heap.size ∧ l.length ≤ cap ∧ cap ≤ maxLen := by
  rcases h.2 with ⟨rfl, h0⟩ | ⟨g, cap, cur, rfl, hbg, hg, hnc, hcm, hcs, htake⟩
  · exact .inl ⟨rfl, List.eq_nil_of_length_eq_zero h0⟩
  · exact .inr ⟨g, cap, rfl, hbg, (Array.getElem?_eq_some_iff.1 hg).1, hnc, hcm⟩
theorem OwnRecs.recAt {g cap : Nat} (h : OwnRecs t w B (.slice (some ⟨g, 0, none⟩) l.length cap) l) {k : Nat} (hk : k < l.length) :
    w.cell? ⟨g, k * 2, none⟩ = some (.string (rk l k).key) ∧ w.cell? ⟨g, k * 2 + 1, none⟩ = some (.string (rk l k).value) := by
  have c := fun j hj => (World.ownsRow.cellAt h (k * 2 + j) (by omega)).trans (flatC_at l k j hk hj)
  exact ⟨c 0 (by omega), c 1 (by omega)⟩
theorem rk_eq {l : List Rec} {k : Nat} (hk : k < l.length) : rk l k = l[k] := by simp [rk, List.getD_eq_getElem?_getD, List.getElem?_eq_getElem hk]
theorem OwnRecs.slice (h : OwnRecs t w B v l) (hl : l.length ≤ maxLen) (hz : ∀ r ∈ l, r.key.size ≤ maxLen ∧ r.value.size ≤ maxLen) : SliceC maxLen 2 (RecC maxLen) w [v] l := by
  rcases h.2 with ⟨rfl, h0⟩ | ⟨g, cap, cur, rfl, hbg, hg, hnc, hcm, hcs, htake⟩
  · obtain rfl := List.eq_nil_of_length_eq_zero h0
    exact ⟨none, 0, rfl, by simp, by simp, by simp, fun _ => rfl, fun h => absurd h (by simp)⟩
  · refine ⟨some ⟨g, 0, none⟩, cap, rfl, hnc, hcm, hl, (fun h => by cases h), fun _ => ⟨g, 0, rfl, fun i hi => ⟨(l[i]).cl, rfl, fun j hj => ?_, rfl, hz _ (List.getElem_mem hi)⟩⟩⟩
    rw [Nat.zero_add, World.ownsRow.cellAt h _ (by omega), flatC_at l i j hi hj, rk_eq hi]
/-! ### What comes of a text -/
theorem recRes_is (s : ByteArray) : RecRes s (recOf s) := by
  have hex : ∃ x, RecRes s x := by
    by_cases h : ∃ k, RecHead s k
    · obtain ⟨k, hk⟩ := h
      by_cases h1 : s.size < valN s k
      · exact ⟨_, .inr ⟨k, hk, .inl ⟨h1, rfl⟩⟩⟩
      · by_cases h2 : valN s k < k + 2 ∨ byt s (valN s k - 1) ≠ 10
        · exact ⟨_, .inr ⟨k, hk, .inr (.inl ⟨by omega, h2, rfl⟩)⟩⟩
        · have h3 : k + 2 ≤ valN s k := by omega
          have h4 : byt s (valN s k - 1) = 10 := by omega
          by_cases h5 : ∀ j, k + 1 ≤ j → j < valN s k - 1 → byt s j ≠ 61
          · exact ⟨_, .inr ⟨k, hk, .inr (.inr (.inl ⟨by omega, h3, h4, h5, rfl⟩))⟩⟩
          · have h6 : ∃ j, k + 1 ≤ j ∧ j < valN s k - 1 ∧ byt s j = 61 := by
              refine Classical.byContradiction fun hn => h5 fun j a b c => hn ⟨j, a, b, c⟩
            have h7 : ∃ i, AtByte s 61 (k + 1) (valN s k - 1) i := by
              obtain ⟨j, a, b, c⟩ := h6
              induction j using Nat.strongRecOn with
              | ind j ih =>
                by_cases hq : ∃ q, k + 1 ≤ q ∧ q < j ∧ byt s q = 61
                · obtain ⟨q, q1, q2, q3⟩ := hq
                  exact ih q q2 q1 (by omega) q3
                · exact ⟨j, a, b, c, fun q q1 q2 q3 => hq ⟨q, q1, q2, q3⟩⟩
            obtain ⟨i, hi⟩ := h7
            exact ⟨_, .inr ⟨k, hk, .inr (.inr (.inr ⟨by omega, h3, h4, i, hi, rfl⟩))⟩⟩
    · exact ⟨_, .inl ⟨h, rfl⟩⟩
  obtain ⟨x, hx⟩ := hex
  rw [recOf_is hx]
  exact hx
theorem recOf_less {s : ByteArray} (h : (recOf s).2.2 = 0) : (recOf s).2.1.size < s.size ∧ (recOf s).1.key.size ≤ s.size ∧ (recOf s).1.value.size ≤ s.size := by
  have hr := recRes_is s
  generalize recOf s = x at *
  rcases hr with ⟨_, rfl⟩ | ⟨k, hk, ⟨_, rfl⟩ | ⟨_, _, rfl⟩ | ⟨_, _, _, _, rfl⟩ | ⟨h1, h2, h3, i, h4, rfl⟩⟩
  · cases h
  · cases h
  · cases h
  · cases h
  · by_cases hf : recFault ⟨s.extract (k + 1) i, s.extract (i + 1) (valN s k - 1)⟩ = 0
    · by_cases ht : recText ⟨s.extract (k + 1) i, s.extract (i + 1) (valN s k - 1)⟩ = s.extract 0 (valN s k)
      · rw [recAt_ok hf ht]
        refine ⟨?_, ?_, ?_⟩ <;> simp <;> omega
      · rw [recAt_odd hf ht] at h; cases h
    · rw [recAt_bad rfl hf] at h
      exact absurd h hf
noncomputable def paxGo : Nat → ByteArray → List Rec → List Rec × Int
  | 0, _, acc => (acc, 0)
  | n + 1, s, acc => if s.size = 0 then (acc, 0) else if (recOf s).2.2 = 0 then paxGo n (recOf s).2.1 (acc ++ [(recOf s).1]) else ([], (recOf s).2.2)
theorem paxGo_done {n : Nat} {s : ByteArray} {acc : List Rec} (h : s.size = 0) : paxGo n s acc = (acc, 0) := by
  cases n with
  | zero => rfl
  | succ n => simp only [paxGo]; rw [if_pos h]
theorem paxGo_bad {n : Nat} {s : ByteArray} {acc : List Rec} (h : s.size ≠ 0) (hn : s.size ≤ n) (he : (recOf s).2.2 ≠ 0) : paxGo n s acc = ([], (recOf s).2.2) := by
  obtain ⟨m, rfl⟩ : ∃ m, n = m + 1 := ⟨n - 1, by omega⟩
  simp only [paxGo]; rw [if_neg h, if_neg he]
theorem paxGo_step {n : Nat} {s : ByteArray} {acc : List Rec} (h : s.size ≠ 0) (hn : s.size ≤ n) (he : (recOf s).2.2 = 0) : paxGo n s acc = paxGo (n - 1) (recOf s).2.1 (acc ++ [(recOf s).1]) := by
  obtain ⟨m, rfl⟩ : ∃ m, n = m + 1 := ⟨n - 1, by omega⟩
  simp only [paxGo]; rw [if_neg h, if_pos he]; rfl
noncomputable def paxOf (s : ByteArray) : List Rec × Int :=
  if (paxGo s.size s []).2 ≠ 0 then ([], (paxGo s.size s []).2) else if paxFault (paxGo s.size s []).1 ≠ 0 then ([], paxFault (paxGo s.size s []).1) else ((paxGo s.size s []).1, 0)
end Go.Creel
