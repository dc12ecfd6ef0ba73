/-
  The law PaxWrites, walked.
-/
import Derived.Test.YthdggdijiecphaaDoorPaxW
namespace Go.Proofs.YthdggdijiecphaaDoor
set_option linter.unusedVariables false
set_option linter.unusedSimpArgs false
open Go.Creel Go.RowKit
theorem pow10_laid_pw (w : World) (h : laidMetH Tryd.prog Rows.paxWritesRow.laid w) : Pow10 w := by
  obtain ⟨ps, hp, _⟩ := (show laidMet Tryd.prog Rows.paxWritesRow.laid w from h)
  exact tabIs_laid (g := 1) (t := 69) (e := 63) (n := 20) (by kernel_rfl) (by kernel_rfl) (by kernel_rfl) (by kernel_rfl) (by kernel_rfl) (by kernel_rfl) _ ps 2 hp rfl
set_option maxRecDepth 100000 in
theorem paxWrites_walk (w : World) (v : Value) (l : List Rec) (h : SliceC maxLen 2 (RecC maxLen) w [v] l) (_hsh : w.ShapedOpen Tryd.prog) (hL : laidMetH Tryd.prog Rows.paxWritesRow.laid w) :
    Calls Tryd.prog 4 #[v] w fun e w' => e = .returned (.bool true) ∧ Below w.heap.size w w' := by
  have hT := pow10_laid_pw w hL
  have hsl : ∀ w', Below w.heap.size w w' → SliceC maxLen 2 (RecC maxLen) w' [v] l := fun w' hb => h.below (fun _ _ hc => hc) hb
  have H1 := Lib.hid (PaxL_any v l w h)
  have H2 := Lib.hid (fun w' hb => PaxW_any v l w' (hsl w' hb) (hT.below hb))
  have H3 := Lib.hid (fun w' hb => PaxR_any v l w' (hsl w' hb))
  have H4 := Lib.hid (fun w' hb => PaxT_any v l w' (hsl w' hb) (hT.below hb))
  clear _hsh hL hsl hT h
  generalize paxFault l = q at *
  generalize paxWrite l = p at *
  obtain ⟨t, e0⟩ := p
  go_enter Tryd.func4, Tryd.ntmps4
  go_wp2_with fail
  refine H1.out.mono ?_
  rintro e w1 ⟨rfl, hb⟩
  have HB := Lib.hid hb
  clear hb
  go_wp2_with fail
  refine (H2.out _ HB.out).mono ?_
  rintro e w2 ⟨rfl, hb⟩
  have HB2 := Lib.hid (HB.out.trans (hb.mono HB.out.size))
  clear hb
  go_wp2_with fail
  refine (H3.out _ HB2.out).mono ?_
  rintro e w3 ⟨rfl, hb⟩
  have HB3 := Lib.hid (HB2.out.trans (hb.mono HB2.out.size))
  clear hb
  go_wp2_with fail
  refine (H4.out _ HB3.out).mono ?_
  rintro e w4 ⟨rfl, hb⟩
  have HB4 := Lib.hid (HB3.out.trans (hb.mono HB3.out.size))
  clear hb
  have q1 : (q == q) = true := by simp
  have q2 : (e0 == e0) = true := by simp
  go_wp2
  go_ret
  exact ⟨rfl, HB4.out⟩
end Go.Proofs.YthdggdijiecphaaDoor
