/-
  The law PathChecks, walked.
-/
import Derived.Test.YtbnimegflfilbaaDoorPathSplit
import Derived.Test.YtbnimegflfilbaaDoorPathFault
import Derived.Test.YtbnimegflfilbaaDoorSameTexts
import Derived.Test.YtbnimegflfilbaaDoorBulk
namespace Go.Proofs.YtbnimegflfilbaaDoor
set_option linter.unusedVariables false
open Go.Creel Go.RowKit
theorem maxOk_of (w : World) (h : w.ShapedOpen Tryd.prog) : MaxOk w := by
  have hc : ∃ m, w.cell? ⟨0, 0, none⟩ = some (.int .i64 m) :=
    Go.Proofs.cell_of_shapedOpen_int (zero := #[.int .i64 0]) (t := 3) h (of_decide_eq_true (by kernel_rfl)) (by kernel_rfl) rfl (by kernel_rfl) (by kernel_rfl) Tryd.underlying3
  refine ⟨?_, hc⟩
  obtain ⟨m, hm⟩ := hc
  rcases Nat.eq_zero_or_pos w.heap.size with h0 | h0
  · unfold World.cell? at hm
    rw [Array.getElem?_eq_none (by omega)] at hm
    simp at hm
  · exact h0
theorem parts_len {s : ByteArray} (hs : s.size ≤ 1048576) : (pathParts s).length ≤ 8000000000 := by
  unfold pathParts
  split
  · simp
  · have := partsL_length 47 s.data.toList
    unfold partsS
    rw [List.length_map]
    have e := Lib.size_eq s
    omega
set_option maxRecDepth 100000 in
theorem pathChecks_walk (w : World) (s : ByteArray) (hs : s.size ≤ 1048576) (hsh : w.ShapedOpen Tryd.prog) (_hL : laidMetH Tryd.prog Rows.pathChecksUptoRow.laid w) :
    Calls Tryd.prog 5 #[.string s] w fun e w' => e = .returned (.bool true) ∧ Below w.heap.size w w' := by
  have HM := Lib.hid (maxOk_of w hsh)
  have HL := Lib.hid (parts_len hs)
  have HS : Hid (s.size ≤ maxLen) := Lib.hid (by unfold maxLen; omega)
  clear hsh _hL
  go_enter Tryd.func5, Tryd.ntmps5
  go_wp2_with fail
  refine (PathCheck_any _ _ HM.out HS.out).mono ?_
  rintro e w1 ⟨rfl, hb⟩
  have HB1 := Lib.hid hb
  clear hb
  go_wp2_with fail
  refine (Parts_any _ _ (HM.out.below HB1.out) (by omega)).mono ?_
  rintro e w2 ⟨v1, rfl, ho, hb⟩
  have HB2 := Lib.hid (HB1.out.trans (hb.mono HB1.out.size))
  have HO1 := Lib.hid ho
  clear hb ho
  go_wp2_with (first | (go_at_call 18; refine (Up_any _ _ (by omega)).mono ?_; rintro e w' ⟨rfl, rfl⟩) | (go_at_call 19; refine (Base_any _ _ (by omega)).mono ?_; rintro e w' ⟨rfl, rfl⟩))
  refine (PathFault_any _ _ HS.out).mono ?_
  rintro e w3 ⟨rfl, hb⟩
  have HB3 := Lib.hid (HB2.out.trans (hb.mono HB2.out.size))
  have HO2 := Lib.hid (HO1.out.below hb)
  clear hb
  go_wp2_with fail
  refine (PathParts_any _ _ (by omega)).mono ?_
  rintro e w4 ⟨v2, rfl, ho, hb⟩
  have HB4 := Lib.hid (HB3.out.trans (hb.mono HB3.out.size))
  have HO3 := Lib.hid (HO2.out.below hb)
  have HP3 := Lib.hid ho
  clear hb ho
  go_wp2_with fail
  refine (PathSplit_any _ _ (by omega)).mono ?_
  rintro e w5 ⟨rfl, hb⟩
  have HB5 := Lib.hid (HB4.out.trans (hb.mono HB4.out.size))
  have HO4 := Lib.hid (HO3.out.below hb)
  have HP4 := Lib.hid (HP3.out.below hb)
  clear hb
  go_wp2_with fail
  refine (lawTexts_eq _ _ _ _ _ _ HL.out HO4.out HP4.out).mono ?_
  rintro e w6 ⟨rfl, hb⟩
  have HB6 := Lib.hid (HB5.out.trans (hb.mono HB5.out.size))
  clear hb
  go_wp2
  go_ret
  exact ⟨rfl, HB6.out⟩
end Go.Proofs.YtbnimegflfilbaaDoor
