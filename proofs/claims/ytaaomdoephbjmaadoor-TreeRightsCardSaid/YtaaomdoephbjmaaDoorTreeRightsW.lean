/-
  The law TreeRights, walked.
-/
import Derived.Test.YtaaomdoephbjmaaDoorNodRight
import Derived.Test.YtaaomdoephbjmaaDoorNodFault
import Derived.Test.YtaaomdoephbjmaaDoorMaxOk
import Derived.Test.YtaaomdoephbjmaaDoorLaid
namespace Go.Proofs.YtaaomdoephbjmaaDoor
set_option linter.unusedVariables false
open Go.Creel Go.RowKit
set_option maxRecDepth 100000 in
theorem treeRights_walk (w : World) (cs : List Value) (x : Nod) (h : NodC maxLen w cs x) (hsh : w.ShapedOpen Tryd.prog) (_hL : laidMetH Tryd.prog Rows.treeRightsRow.laid w) :
    Calls Tryd.prog 6 #[.agg cs.toArray] w fun e w' => e = .returned (.bool true) ∧ Below w.heap.size w w' := by
  have HM := Lib.hid (maxOk_of w hsh)
  clear hsh _hL
  obtain ⟨rfl, hx⟩ := h
  have HX := Lib.hid hx
  have HD : Hid (x.data.length ≤ maxLen) := Lib.hid (by obtain ⟨_, _, _, _, _, h, _⟩ := hx.data; exact h)
  clear hx
  show Calls Tryd.prog 6 #[x.val] w _
  go_enter Tryd.func6, Tryd.ntmps6
  go_wp2_with fail
  refine (TreeRight_any x _ (HM.out.below ((Below.refl _ _).alloc (Nat.le_refl _) _)) HX.out.path HX.out.target HX.out.mt HD.out HX.out.kind HX.out.same (Nat.le_refl _)).mono ?_
  rintro e w1 ⟨rfl, hb⟩
  have HB := Lib.hid (((Below.refl _ _).alloc (Nat.le_refl _) _).trans (hb.mono (by simp)))
  obtain ⟨hc, _⟩ := bcell hb
  clear hb
  go_wp2_with fail
  refine (NodeFault_any x _ HX.out.path HX.out.target HX.out.mt HD.out HX.out.kind HX.out.same (Nat.le_refl _)).mono ?_
  rintro e w2 ⟨rfl, hb⟩
  have HB2 := Lib.hid (HB.out.trans (hb.mono HB.out.size))
  clear hb hc
  go_wp2
  go_ret
  exact ⟨rfl, HB2.out⟩
end Go.Proofs.YtaaomdoephbjmaaDoor
