/-
  A list of records, opened.
-/
import Derived.Test.YtaffgndickdbiaaGreatDoorData
namespace Go.Creel
open Go.RowKit
/-- record k of a list -/
def rk (l : List Rec) (k : Nat) : Rec := l.getD k ⟨ByteArray.empty, ByteArray.empty⟩
theorem recs_cases {N : Nat} {w : World} {v : Value} {l : List Rec} (h : SliceC N 2 (RecC N) w [v] l) : (∃ a cap, v = .slice a 0 cap ∧ l = []) ∨
    ∃ b off cap, v = .slice (some ⟨b, off, none⟩) l.length cap ∧ 0 < l.length ∧ l.length ≤ cap ∧ cap ≤ maxLen ∧ l.length ≤ N ∧
      ∀ i, i < l.length → (w.cell? ⟨b, off + i * 2, none⟩ = some (.string (rk l i).key) ∧ w.cell? ⟨b, off + i * 2 + 1, none⟩ = some (.string (rk l i).value)) ∧ (rk l i).key.size ≤ N ∧ (rk l i).value.size ≤ N := by
  obtain ⟨a, cap, hv, h1, h2, h3, _, h4⟩ := h
  simp only [List.cons.injEq, and_true] at hv
  by_cases hl : 0 < l.length
  · obtain ⟨b, off, rfl, hc⟩ := h4 hl
    refine .inr ⟨b, off, cap, hv, hl, h1, h2, h3, fun i hi => ?_⟩
    obtain ⟨c, _, hcc, hE, hn⟩ := hc i hi
    have e0 := hcc 0 (by omega)
    have e1 := hcc 1 (by omega)
    rw [hE] at e0 e1
    have hr : rk l i = l[i] := by simp [rk, List.getD_eq_getElem?_getD, List.getElem?_eq_getElem hi]
    rw [hr]
    exact ⟨⟨by simpa using e0, by simpa using e1⟩, hn⟩
  · have : l = [] := by
      cases l with
      | nil => rfl
      | cons x r => simp at hl
    subst this
    exact .inl ⟨a, cap, by simpa using hv, rfl⟩
end Go.Creel
