/-
  Texts of this proof, one behind the other: AlikeR, MaxOk, Laid, DiffAlikesW.
-/
import Derived.Test.YtaffgndickdbiaaDoorAlikeSpec
import Derived.Test.YtaffgndickdbiaaDoorPieces
import Derived.Shaped
import Derived.Test.YtaffgndickdbiaaDoorRows
import Derived.Deep.DeepHandedRow
import Derived.Lib.LaidTab
import Derived.Test.YtaffgndickdbiaaDoorDiffAlikesLot02
/-
  creelref.DiffAlike, walked.
-/
namespace Go.Proofs.YtaffgndickdbiaaDoor
set_option linter.unusedVariables false
set_option linter.unusedSimpArgs false
open Go.Creel Go.RowKit
set_option maxRecDepth 100000 in
set_option maxHeartbeats 1000000 in
theorem AlikeR_any2 (v1 v2 : Value) (a b : List Nod) (w : World) (ha : SliceC maxLen 12 (NodC maxLen) w [v1] a) (hb : SliceC maxLen 12 (NodC maxLen) w [v2] b) :
    Calls Tryd.prog 13 #[v1, v2] w fun e w' => e = .returned (.tuple #[.bool (alikeOf a b).1, .int .i64 (alikeOf a b).2]) ∧ Below w.heap.size w w' := by
  have HSB := Lib.hid hb
  have HA := Lib.hid (AnewR_any v1 a w ha)
  have HB := Lib.hid (fun w h => AnewR_any v2 b w h)
  by_cases hEA : treeFault a = 0
  · rw [linkAnew_ok hEA] at HA
    by_cases hEB : treeFault b = 0
    · rw [linkAnew_ok hEB] at HB
      have HF := Lib.hid (alikeOf_ok hEA hEB)
      have HAT := Lib.hid (fun h => alikeB_t (a := a) (b := b) h)
      have HAF := Lib.hid (fun h => alikeB_f (a := a) (b := b) h)
      have HRA := Lib.hid (anew_right hEA)
      have HRB := Lib.hid (anew_right hEB)
      clear ha hb hEA hEB
      generalize anewL a = x at *
      generalize anewL b = y at *
      generalize alikeB a b = r at *
      go_enter Tryd.func13, Tryd.ntmps13
      go_wp2_with fail
      refine HA.out.mono ?_
      rintro e w1 ⟨u1, c1, rfl, ho, hc, hb⟩
      have HO1 := Lib.hid ho
      have HC1 := Lib.hid hc
      have HB1 := Lib.hid hb
      clear ho hc hb
      go_wp2_with fail
      refine (HB.out _ (nods_below HSB.out HB1.out)).mono ?_
      rintro e w2 ⟨u2, c2, rfl, ho, hc, hb⟩
      have HO2 := Lib.hid (HO1.out.below hb)
      have HP2 := Lib.hid ho
      have HC2 := Lib.hid hc
      have HB2 := Lib.hid (HB1.out.trans (hb.mono HB1.out.size))
      clear ho hc hb
      have HT1 := Lib.hid (show treeFault c1 = 0 by rw [treeFault_eq HC1.out]; exact HRA.out)
      have HT2 := Lib.hid (show treeFault c2 = 0 by rw [treeFault_eq HC2.out]; exact HRB.out)
      have HDF := Lib.hid (DiffR_any u1 u2 c1 c2 w2 (HO2.out.slice (by have := (treeFault_all HT1.out).1; unfold maxLen; omega)) (HP2.out.slice (by have := (treeFault_all HT2.out).1; unfold maxLen; omega)))
      rw [diffOf_ok HT1.out HT2.out] at HDF
      go_wp2_with fail
      refine HDF.out.mono ?_
      rintro e w3 ⟨u3, c3, rfl, ho, hc, hb⟩
      have HB3 := Lib.hid (HB2.out.trans (hb.mono HB2.out.size))
      obtain ⟨p3, cp3, rfl, _⟩ := chgs_row ho
      have hq : c3.length = 0 ↔ c1.map Nod.bare = c2.map Nod.bare := by
        rw [← diffL_zero, chg_len hc]
      have HQ := Lib.hid (show ((c3.length : Int) == 0) = r from by
        by_cases h : x.map Nod.bare = y.map Nod.bare
        · rw [HAT.out h]
          have h3 := hq.2 (HC1.out.trans (h.trans HC2.out.symm))
          rw [h3]; rfl
        · rw [HAF.out h, beq_eq_false_iff_ne]
          intro e
          exact h (HC1.out.symm.trans ((hq.1 (by omega)).trans HC2.out)))
      clear ho hc
      clear hq hb
      go_wp2
      go_ret2
      rw [HF.out, ← HQ.out]
      exact ⟨rfl, HB3.out⟩
    · rw [linkAnew_bad hEB] at HB
      have HF := Lib.hid (alikeOf_b hEA hEB)
      generalize treeFault b = q at *
      have hq : (q == 0) = false := by rw [beq_eq_false_iff_ne]; exact hEB
      clear ha hb hEA hEB
      go_enter Tryd.func13, Tryd.ntmps13
      go_wp2_with fail
      refine HA.out.mono ?_
      rintro e w1 ⟨u1, c1, rfl, ho, hc, hb⟩
      have HB1 := Lib.hid hb
      clear ho hc hb
      go_wp2_with fail
      refine (HB.out _ (nods_below HSB.out HB1.out)).mono ?_
      rintro e w2 ⟨u2, c2, rfl, ho, hc, hb⟩
      have HB2 := Lib.hid (HB1.out.trans (hb.mono HB1.out.size))
      clear ho hc hb
      go_wp2
      go_ret2
      rw [HF.out]
      exact ⟨rfl, HB2.out⟩
  · rw [linkAnew_bad hEA] at HA
    have HF := Lib.hid (alikeOf_a (b := b) hEA)
    generalize treeFault a = q at *
    have hq : (q == 0) = false := by rw [beq_eq_false_iff_ne]; exact hEA
    clear ha hb hEA
    go_enter Tryd.func13, Tryd.ntmps13
    go_wp2_with fail
    refine HA.out.mono ?_
    rintro e w1 ⟨u1, c1, rfl, ho, hc, hb⟩
    have HB1 := Lib.hid hb
    clear ho hc hb
    go_wp2
    go_ret2
    rw [HF.out]
    exact ⟨rfl, HB1.out⟩
end Go.Proofs.YtaffgndickdbiaaDoor
/-
  The world at a law's call holds the library's bound on the lengths that it looks for.
-/
namespace Go.Proofs.YtaffgndickdbiaaDoor
set_option linter.unusedVariables false
open Go.Creel Go.RowKit
theorem maxOk_of (w : World) (h : w.ShapedOpen Tryd.prog) : MaxOk w := by
  have hc : ∃ m, w.cell? ⟨0, 0, none⟩ = some (.int .i64 m) :=
    Go.Proofs.cell_of_shapedOpen_int (zero := #[.int .i64 0]) (t := 3) h (of_decide_eq_true (by kernel_rfl)) (by kernel_rfl) rfl (by kernel_rfl) (by kernel_rfl) Tryd.underlying3
  refine ⟨?_, hc⟩
  obtain ⟨m, hm⟩ := hc
  rcases Nat.eq_zero_or_pos w.heap.size with h0 | h0
  · unfold World.cell? at hm
    rw [Array.getElem?_eq_none (by omega)] at hm
    simp at hm
  · exact h0
end Go.Proofs.YtaffgndickdbiaaDoor
/-
  A world that holds the library's tables, for the witness of a row that lists them.
-/
namespace Go.Creel
/-- a datum of numbers, arrays and structs of these, as cells -/
def dcells : Nat → DataW Unit → List Value
  | 0, _ => []
  | _ + 1, .lit (.int k n) => [.int k n]
  | m + 1, .agg ps => ps.flatMap (dcells m)
  | _ + 1, _ => []
/-- the world with these variables laid -/
def layAll (w : World) (l : List (Nat × DataW Unit)) : World :=
  { w with heap := l.foldl (fun h x => h.modify x.1 fun
    | .cells _ t fr => .cells (dcells 4 x.2).toArray t fr
    | o => o) w.heap }
/-- the world with an error of the library's made: one block more, and the variable that points there -/
def layErr (w : World) (x : Nat × TypeId × TypeId × List UInt8) : World :=
  { w with heap := (w.heap.push (.cells #[.string ⟨x.2.2.2.toArray⟩] x.2.2.1 (0, 0))).modify x.1 fun
    | .cells _ t fr => .cells #[.iface x.2.1 (.pointer (some ⟨w.heap.size, 0, none⟩))] t fr
    | o => o }
end Go.Creel
/-
  The law DiffAlikes, walked.
-/
namespace Go.Proofs.YtaffgndickdbiaaDoor
set_option linter.unusedVariables false
open Go.Creel Go.RowKit
set_option maxRecDepth 100000 in
set_option maxHeartbeats 1000000 in
theorem diffAlikes_walk (w : World) (v : Value) (a : List Nod) (ha : SliceC maxLen 12 (NodC maxLen) w [v] a) (u : Value) (b : List Nod) (hb : SliceC maxLen 12 (NodC maxLen) w [u] b) (hsh : w.ShapedOpen Tryd.prog) (_hL : laidMetH Tryd.prog Rows.diffAlikesRow.laid w) :
    Calls Tryd.prog 4 #[v, u] w fun e w' => e = .returned (.bool true) ∧ Below w.heap.size w w' := by
  have HM := Lib.hid (maxOk_of w hsh)
  have H := Lib.hid ha
  have HU := Lib.hid hb
  have HA := Lib.hid (fun (w : World) (hM : MaxOk w) (ha : SliceC maxLen 12 (NodC maxLen) w [v] a) (hb : SliceC maxLen 12 (NodC maxLen) w [u] b) => AlikeL_any2 v u a b w hM ha hb)
  have HC := Lib.hid (fun (w : World) (ha : SliceC maxLen 12 (NodC maxLen) w [v] a) (hb : SliceC maxLen 12 (NodC maxLen) w [u] b) => AlikeR_any2 v u a b w ha hb)
  generalize alikeOf a b = p at *
  obtain ⟨fl, fe⟩ := p
  clear ha hb hsh _hL
  have q1 : (fe == fe) = true := by simp
  have q2 : (fl == fl) = true := by simp
  go_enter Tryd.func4, Tryd.ntmps4
  go_wp2_with fail
  refine (HA.out _ HM.out H.out HU.out).mono ?_
  rintro e w1 ⟨rfl, hb⟩
  have HB1 := Lib.hid hb
  clear hb
  go_wp2_with fail
  refine (HC.out _ (nods_below H.out HB1.out) (nods_below HU.out HB1.out)).mono ?_
  rintro e w2 ⟨rfl, hb⟩
  have HB2 := Lib.hid (HB1.out.trans (hb.mono HB1.out.size))
  clear hb
  go_wp2
  go_ret
  exact ⟨rfl, HB2.out⟩
end Go.Proofs.YtaffgndickdbiaaDoor
