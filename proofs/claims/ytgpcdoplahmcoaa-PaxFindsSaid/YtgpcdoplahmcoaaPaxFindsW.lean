/-
  The law PaxFinds, walked.
-/
import Derived.Test.YtgpcdoplahmcoaaPaxFind
namespace Go.Proofs.Ytgpcdoplahmcoaa
set_option linter.unusedVariables false
open Go.Creel Go.RowKit
set_option maxRecDepth 100000 in
theorem paxFinds_walk {N : Nat} (w : World) (v : Value) (l : List Rec) (h : SliceC N 2 (RecC N) w [v] l) (key : ByteArray) (hk : key.size ≤ maxLen) :
    Calls Try.prog 5 #[v, .string key] w fun e w' => e = .returned (.bool true) ∧ Below w.heap.size w w' := by
  have H := Lib.hid h
  clear h
  go_enter Try.func5, Try.ntmps5
  go_wp2_with fail
  refine (Find_any _ _ _ _ H.out).mono ?_
  rintro e w1 ⟨rfl, hB⟩
  have H1 := Lib.hid (H.out.below (w' := w1) (fun _ _ h => h) hB)
  go_wp2_with fail
  refine (PaxFind_any _ _ _ _ H1.out).mono ?_
  rintro e w' ⟨rfl, rfl⟩
  go_wp2
  go_ret
  exact ⟨rfl, hB⟩
end Go.Proofs.Ytgpcdoplahmcoaa
