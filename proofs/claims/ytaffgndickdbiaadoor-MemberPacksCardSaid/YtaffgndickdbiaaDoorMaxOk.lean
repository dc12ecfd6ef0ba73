/-
  The world at a law's call holds the library's bound on the lengths that it looks for.
-/
import Derived.Test.YtaffgndickdbiaaDoorPieces
import Derived.Shaped
namespace Go.Proofs.YtaffgndickdbiaaDoor
set_option linter.unusedVariables false
open Go.Creel Go.RowKit
theorem maxOk_of (w : World) (h : w.ShapedOpen Tryd.prog) : MaxOk w := by
  have hc : ∃ m, w.cell? ⟨0, 0, none⟩ = some (.int .i64 m) :=
    Go.Proofs.cell_of_shapedOpen_int (zero := #[.int .i64 0]) (t := 3) h (of_decide_eq_true (by kernel_rfl)) (by kernel_rfl) rfl (by kernel_rfl) (by kernel_rfl) Tryd.underlying3
  refine ⟨?_, hc⟩
  obtain ⟨m, hm⟩ := hc
  rcases Nat.eq_zero_or_pos w.heap.size with h0 | h0
  · unfold World.cell? at hm
    rw [Array.getElem?_eq_none (by omega)] at hm
    simp at hm
  · exact h0
end Go.Proofs.YtaffgndickdbiaaDoor
