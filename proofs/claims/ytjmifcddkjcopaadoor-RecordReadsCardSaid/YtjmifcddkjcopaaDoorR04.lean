/-
  Texts: RecordReadsW.
-/
import Derived.Test.YtjmifcddkjcopaaDoorR03
set_option linter.unusedVariables false
set_option linter.unusedSimpArgs false
set_option linter.unusedSectionVars false
namespace Go.Proofs.YtjmifcddkjcopaaDoor
open Go.Creel Go.RowKit
theorem pow10_laid_rr (w : World) (h : laidMetH Tryd.prog Rows.recordReadsRow.laid w) : Pow10 w := by
  obtain ⟨ps, hp, _⟩ := (show laidMet Tryd.prog Rows.recordReadsRow.laid w from h)
  exact tabIs_laid (g := 5) (t := 99) (e := 71) (n := 20) (by kernel_rfl) (by kernel_rfl) (by kernel_rfl) (by kernel_rfl) (by kernel_rfl) (by kernel_rfl) _ ps 2 hp rfl
set_option maxRecDepth 100000 in
set_option maxHeartbeats 2000000 in
theorem recordReads_walk (w : World) (s : ByteArray) (hs : s.size ≤ maxLen) (_hsh : w.ShapedOpen Tryd.prog) (hL : laidMetH Tryd.prog Rows.recordReadsRow.laid w) :
    Calls Tryd.prog 3 #[.string s] w fun e w' => e = .returned (.bool true) ∧ Below w.heap.size w w' := by
  have HT := Lib.hid (pow10_laid_rr w hL)
  have H1 := Lib.hid (fun w h => RecRead_any s w hs h)
  have H2 := Lib.hid (fun w h => RecordOf_any s w hs h)
  clear _hsh hL
  generalize recOf s = p at *
  obtain ⟨⟨key, value⟩, rest, e0⟩ := p
  simp only [Rec.cells] at H1 H2
  go_enter Tryd.func3, Tryd.ntmps3
  go_wp2_with fail
  refine (H1.out _ HT.out).mono ?_
  rintro e w1 ⟨rfl, hb⟩
  have HB1 := Lib.hid hb
  have HBX := Lib.hid (hb.alloc hb.size (.cells #[.string key, .string value] 23))
  have HA1 := Lib.hid (show RBox 23 w1.heap.size key value (w1.alloc (.cells #[.string key, .string value] 23)) from heap_alloc_new w1 _)
  clear hb
  go_wp2_with fail
  refine (H2.out _ (HT.out.below HBX.out)).mono ?_
  rintro e w2 ⟨rfl, hb⟩
  have HA2 := Lib.hid (HA1.out.on hb)
  have HB2 := Lib.hid (HBX.out.trans (hb.mono HBX.out.size))
  have HB3 := Lib.hid (HB2.out.alloc HB2.out.size (.cells #[.string key, .string value] 23))
  have HA3 := Lib.hid (HA2.out.on ((Below.refl w2.heap.size w2).alloc (Nat.le_refl _) (.cells #[.string key, .string value] 23)))
  clear hb
  have q1 : (e0 == e0) = true := by simp
  obtain ⟨h0, h1, h2, h3⟩ := HA3.out.facts
  go_wp2
  go_ret
  exact ⟨rfl, HB3.out⟩
end Go.Proofs.YtjmifcddkjcopaaDoor
