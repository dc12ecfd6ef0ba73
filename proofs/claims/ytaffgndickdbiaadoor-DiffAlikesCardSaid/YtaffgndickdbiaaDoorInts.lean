/-
  Slices of ints of the call's own; two of them compared.
-/
import Derived.Test.YtaffgndickdbiaaDoorData
import Derived.Test.YtaffgndickdbiaaDoorAppend
namespace Go.Creel
set_option linter.unusedVariables false
open Go.RowKit
/-- A slice of ints of the call's own, nil or not. -/
def OwnIs (t : TypeId) (w : World) (B : Nat) (v : Value) (l : List Int) : Prop := w.ownsRow B t 1 v l.length (l.map (Value.int .i64))
def pieceI (l : List Int) (k : Nat) : Int := l.getD k 0
theorem pieceI_eq {l : List Int} {k : Nat} (h : k < l.length) : pieceI l k = l[k] := by simp [pieceI, List.getD_eq_getElem?_getD, List.getElem?_eq_getElem h]
theorem OwnIs.cell {t : TypeId} {w : World} {B g cap : Nat} {l : List Int} (h : OwnIs t w B (.slice (some ⟨g, 0, none⟩) l.length cap) l) {j : Nat} (hj : j < l.length) : w.cell? ⟨g, j, none⟩ = some (.int .i64 (pieceI l j)) := by
  rw [World.ownsRow.cellAt h j (by omega), pieceI_eq hj]
  simp [List.getElem?_eq_getElem hj]
theorem OwnIs.form {t : TypeId} {w : World} {B : Nat} {v : Value} {l : List Int} (h : OwnIs t w B v l) : (v = .slice none 0 0 ∧ l = []) ∨ ∃ g cap, v = .slice (some ⟨g, 0, none⟩) l.length cap ∧ B ≤ g ∧ g < w.heap.size ∧ l.length ≤ cap ∧ cap ≤ maxLen := by
  rcases h.2 with ⟨rfl, h0⟩ | ⟨g, cap, cur, rfl, hbg, hg, hnc, hcm, hcs, htake⟩
  · exact .inl ⟨rfl, List.eq_nil_of_length_eq_zero h0⟩
  · refine .inr ⟨g, cap, rfl, hbg, ?_, hnc, hcm⟩
    rcases Nat.lt_or_ge g w.heap.size with h' | h'
    · exact h'
    · rw [Array.getElem?_eq_none h'] at hg; cases hg
theorem OwnIs.below {t : TypeId} {w w' : World} {B : Nat} {v : Value} {l : List Int} (h : OwnIs t w B v l) (hb : Below w.heap.size w w') : OwnIs t w' B v l := by
  refine ⟨h.1, ?_⟩
  rcases h.2 with h0 | ⟨g, cap, cur, hv, hbg, hg, r⟩
  · exact .inl h0
  · refine .inr ⟨g, cap, cur, hv, hbg, ?_, r⟩
    rw [hb.block g]
    · exact hg
    · rcases Nat.lt_or_ge g w.heap.size with h' | h'
      · exact h'
      · rw [Array.getElem?_eq_none h'] at hg; cases hg
theorem OwnIs.app {t : TypeId} {w' : World} {B : Nat} {v' : Value} {l m : List Int} (h : w'.ownsRow B t 1 v' (l.length + m.length) (l.map (Value.int .i64) ++ m.map (Value.int .i64))) : OwnIs t w' B v' (l ++ m) := by
  unfold OwnIs
  rw [List.length_append, List.map_append]
  exact h
theorem OwnIs.mono {t : TypeId} {w : World} {B B' : Nat} {v : Value} {l : List Int} (h : OwnIs t w B v l) (hb : B' ≤ B) : OwnIs t w B' v l := by
  rcases h.2 with ⟨rfl, h0⟩ | ⟨g, cap, cur, rfl, hbg, hg, hnc, hcm, hcs, htake⟩
  · exact ⟨h.1, .inl ⟨rfl, h0⟩⟩
  · exact ⟨h.1, .inr ⟨g, cap, cur, rfl, Nat.le_trans hb hbg, hg, hnc, hcm, hcs, htake⟩⟩
/-- a new slice of ints and a number -/
def RetIE (t : TypeId) (w : World) (p : List Int × Int) (e : Ending) (w' : World) : Prop := ∃ v, e = .returned (.tuple #[v, .int .i64 p.2]) ∧ OwnIs t w' w.heap.size v p.1 ∧ Below w.heap.size w w'
end Go.Creel
namespace Go.Proofs.YtaffgndickdbiaaDoor
set_option linter.unusedVariables false
open Go.Creel Go.RowKit
theorem info_int : (Tryd.prog.info? 3).map (fun i => (i.zero, i.size, i.bytes)) = some (some (.int .i64 0), 1, 8) := by kernel_rfl
theorem slice_formI {t : TypeId} {w : World} {B : Nat} {v : Value} {l : List Int} (h : OwnIs t w B v l) : ∃ p cap, v = .slice p l.length cap ∧ (0 < l.length → ∃ g, p = some ⟨g, 0, none⟩) := by
  rcases h.form with ⟨rfl, rfl⟩ | ⟨g, cap, rfl, hgB, hgw, hcap, hcapm⟩
  · exact ⟨none, 0, rfl, fun h => absurd h (by simp)⟩
  · exact ⟨_, _, rfl, fun _ => ⟨g, rfl⟩⟩
end Go.Proofs.YtaffgndickdbiaaDoor
