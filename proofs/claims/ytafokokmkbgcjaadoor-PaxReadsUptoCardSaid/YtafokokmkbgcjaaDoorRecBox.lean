/-
  A record's box, and where a head ends.
-/
import Derived.Test.YtafokokmkbgcjaaDoorRecOf
import Derived.Test.YtafokokmkbgcjaaDoorRecT
import Derived.Laws.ResultCell
namespace Go.Creel
set_option linter.unusedVariables false
open Go.RowKit
theorem results_rec3 {fn : Func} {p u x : Tmp} {ty : TypeId} (h : fn.results = #[.cell p ty, .tmp u, .tmp x]) (tmps : Array Value) (P : Program) (w : World) :
    (results fn tmps).run P w =
      ((asAddr (tmps.getD p undef)).run P w).andThen fun a w₁ => ((loadVar ty a).run P w₁).andThen fun v w₂ => .ok (.tuple #[v, tmps.getD u undef, tmps.getD x undef]) w₂ := by
  simp only [results, h]
  simp [Sem.run_bind, Result.andThen]
/-- a record's box -/
def RBox (ty : TypeId) (b : Nat) (key value : ByteArray) (w : World) : Prop := w.heap[b]? = some (.cells #[.string key, .string value] ty (0, 0))
theorem RBox.lt {ty : TypeId} {b : Nat} {x y : ByteArray} {w : World} (h : RBox ty b x y w) : b < w.heap.size := (Array.getElem?_eq_some_iff.1 h).1
theorem RBox.on {ty : TypeId} {b : Nat} {x y : ByteArray} {w w' : World} (h : RBox ty b x y w) (hb : Below w.heap.size w w') : RBox ty b x y w' := (hb.block b h.lt).trans h
theorem RBox.facts {ty : TypeId} {b : Nat} {x y : ByteArray} {w : World} (h : RBox ty b x y w) : w.cell? ⟨b, 0, none⟩ = some (.string x) ∧ w.cell? ⟨b, 1, none⟩ = some (.string y) ∧ w.frozen? ⟨b, 0, none⟩ = false ∧ w.frozen? ⟨b, 1, none⟩ = false := by
  have h' := h
  unfold RBox at h'
  exact ⟨by rw [cell_of_row w b 0 _ ty (0, 0) h']; rfl, by rw [cell_of_row w b 1 _ ty (0, 0) h']; rfl, frozen_of_row w b 0 _ ty h', frozen_of_row w b 1 _ ty h'⟩
theorem head_at {s : ByteArray} {k m : Nat} (h1 : byt s k = 32) (h2 : ∀ j, j < k → byt s j ≠ 32) (h : RecHead s m) : m = k := by
  obtain ⟨_, _, _, h4, _, h6⟩ := h
  rcases Nat.lt_trichotomy m k with e | e | e
  · exact absurd h6 (h2 m e)
  · exact e
  · have := h4 k e; omega
end Go.Creel
