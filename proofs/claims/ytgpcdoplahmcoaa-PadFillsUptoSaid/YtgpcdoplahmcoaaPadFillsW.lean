/-
  The law PadFills, walked.
-/
import Derived.Test.YtgpcdoplahmcoaaPadFill
namespace Go.Proofs.Ytgpcdoplahmcoaa
set_option linter.unusedVariables false
open Go.Creel Go.RowKit
set_option maxRecDepth 100000 in
theorem padFills_walk (w : World) (n : Int) (hn : -9223372036854775808 ≤ n ∧ n ≤ 9223372036854775807) (v : Value) (l : List UInt8) (h : SliceC 1048576 1 ByteC w [v] l) :
    Calls Try.prog 6 #[.int .i64 n, v] w fun e w' => e = .returned (.bool true) ∧ Below w.heap.size w w' := by
  have hl : l.length ≤ 1048576 := by obtain ⟨_, _, _, _, _, h, _⟩ := h; exact h
  have hp := padLack_lt512 l.length
  have hpl : (padFill l).length ≤ 2000000 := by unfold padFill; simp; omega
  have H := Lib.hid h
  have HP := Lib.hid hpl
  clear h hpl hp
  go_enter Try.func6, Try.ntmps6
  go_wp2_with fail
  refine (Blocks_any _ _ hn).mono ?_
  rintro e w1 ⟨rfl, rfl⟩
  go_wp2_with fail
  refine (Fill_any _ _ _ H.out (by omega)).mono ?_
  rintro e w1 ⟨v1, rfl, ho, hb⟩
  have HO := Lib.hid ho
  have HB := Lib.hid hb
  have H1 := Lib.hid (H.out.below (w' := w1) (fun _ _ h => h) hb)
  clear ho hb
  go_wp2_with fail
  refine (PadBlocks_any _ _ hn).mono ?_
  rintro e w2 ⟨rfl, rfl⟩
  go_wp2_with fail
  refine (PadFill_any _ _ _ H1.out (by omega)).mono ?_
  rintro e w2 ⟨v2, rfl, ho, hb⟩
  have HB2 := Lib.hid (HB.out.trans (hb.mono HB.out.size))
  have S1 := Lib.hid ((HO.out.slice HP.out).below (w' := w2) (fun _ _ h => h) hb)
  have S2 := Lib.hid (ho.slice HP.out)
  clear ho hb
  go_wp2_with fail
  refine (sameBytes_eq _ _ _ _ S1.out S2.out).mono ?_
  rintro e w3 ⟨rfl, rfl⟩
  go_wp2
  go_ret
  exact ⟨rfl, HB2.out⟩
end Go.Proofs.Ytgpcdoplahmcoaa
