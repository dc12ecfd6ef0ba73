/-
  The law MetaChecks, walked.
-/
import Derived.Test.YtgpcdoplahmcoaaMetaCheck
namespace Go.Proofs.Ytgpcdoplahmcoaa
set_option linter.unusedVariables false
open Go.Creel Go.RowKit
set_option maxRecDepth 100000 in
theorem metaChecks_walk {N : Nat} (w : World) (cs : List Value) (m : Meta) (h : MetaC N w cs m) (hN : N ≤ maxLen := by exact Nat.le_refl _) :
    Calls Try.prog 12 #[.agg cs.toArray] w fun e w' => e = .returned (.bool true) ∧ Below w.heap.size w w' := by
  obtain ⟨rfl, hm⟩ := h
  show Calls Try.prog 12 #[m.val] w _
  have HM := Lib.hid hm
  clear hm
  go_enter Try.func12, Try.ntmps12
  go_wp2_with fail
  refine (MetaCheck_any m _ HM.out hN).mono ?_
  rintro e w1 ⟨rfl, hb⟩
  have HB := Lib.hid (((Below.refl _ _).alloc (Nat.le_refl _) _).trans (hb.mono (by simp)))
  obtain ⟨hc, _⟩ := bcell hb
  clear hb
  go_wp2_with fail
  refine (MetaFault_any m _ HM.out hN).mono ?_
  rintro e w2 ⟨rfl, hb⟩
  have HB2 := Lib.hid (HB.out.trans (hb.mono HB.out.size))
  clear hb hc
  go_wp2
  go_ret
  exact ⟨rfl, HB2.out⟩
end Go.Proofs.Ytgpcdoplahmcoaa
