/-
  The law RecordWrites, walked.
-/
import Derived.Test.YthdggdijiecphaaDoorRecT
namespace Go.Proofs.YthdggdijiecphaaDoor
set_option linter.unusedVariables false
set_option linter.unusedSimpArgs false
open Go.Creel Go.RowKit
set_option maxRecDepth 100000 in
theorem recordWrites_walk (w : World) (cs : List Value) (r : Rec) (h : RecC maxLen w cs r) (_hsh : w.ShapedOpen Tryd.prog) (hL : laidMetH Tryd.prog Rows.recordWritesRow.laid w) :
    Calls Tryd.prog 3 #[.agg cs.toArray] w fun e w' => e = .returned (.bool true) ∧ Below w.heap.size w w' := by
  obtain ⟨rfl, hk, hv⟩ := h
  have HT := Lib.hid (pow10_laid w hL)
  have H1 := Lib.hid (fun w => RecL_any r w hk hv)
  have H2 := Lib.hid (fun w h => RecW_any r w hk hv h)
  have H3 := Lib.hid (fun w => RecR_any r w hk hv)
  have H4 := Lib.hid (fun w h => RecT_any r w hk hv h)
  clear _hsh hL hk hv
  generalize recFault r = q at *
  generalize recWrite r = p at *
  obtain ⟨t, e0⟩ := p
  obtain ⟨key, value⟩ := r
  simp only [Rec.cells] at H1 H2 H3 H4
  go_enter Tryd.func3, Tryd.ntmps3
  go_wp2_with fail
  refine (H1.out _).mono ?_
  rintro e w1 ⟨rfl, hb⟩
  have HB := Lib.hid (((Below.refl _ _).alloc (Nat.le_refl _) _).trans (hb.mono (by simp)))
  obtain ⟨hc, _⟩ := bcell hb
  have HZ := Lib.hid hb.size
  clear hb
  go_wp2_with fail
  refine (H2.out _ (HT.out.below HB.out)).mono ?_
  rintro e w2 ⟨rfl, hb⟩
  have hc2 : ∀ o, w2.cell? ⟨w.heap.size, o, none⟩ = w1.cell? ⟨w.heap.size, o, none⟩ := fun o => (bcell hb).1 _ _ (Nat.lt_of_lt_of_le (by simp) HZ.out)
  have HZ2 := Lib.hid (Nat.le_trans HZ.out hb.size)
  have HB2 := Lib.hid (HB.out.trans (hb.mono HB.out.size))
  clear hb
  go_wp2_with fail
  refine (H3.out _).mono ?_
  rintro e w3 ⟨rfl, hb⟩
  have hc3 : ∀ o, w3.cell? ⟨w.heap.size, o, none⟩ = w2.cell? ⟨w.heap.size, o, none⟩ := fun o => (bcell hb).1 _ _ (Nat.lt_of_lt_of_le (by simp) HZ2.out)
  have HB3 := Lib.hid (HB2.out.trans (hb.mono HB2.out.size))
  clear hb
  go_wp2_with fail
  refine (H4.out _ (HT.out.below HB3.out)).mono ?_
  rintro e w4 ⟨rfl, hb⟩
  have HB4 := Lib.hid (HB3.out.trans (hb.mono HB3.out.size))
  clear hb hc hc2 hc3
  have q1 : (q == q) = true := by simp
  have q2 : (e0 == e0) = true := by simp
  go_wp2
  go_ret
  exact ⟨rfl, HB4.out⟩
end Go.Proofs.YthdggdijiecphaaDoor
