/-
  The law HeadReads, walked.
-/
import Derived.Test.YtiiojjhfncefgabDoorHeadRd
import Derived.Test.YtiiojjhfncefgabDoorHeadRef
namespace Go.Proofs.YtiiojjhfncefgabDoor
set_option linter.unusedVariables false
set_option linter.unusedSimpArgs false
open Go.Creel Go.RowKit
set_option maxRecDepth 100000 in
set_option maxHeartbeats 2000000 in
theorem headReads_walk (w : World) (s : ByteArray) (hs : s.size ≤ maxLen) (_hsh : w.ShapedOpen Tryd.prog) (_hL : laidMetH Tryd.prog Rows.headReadsRow.laid w) :
    Calls Tryd.prog 3 #[.string s] w fun e w' => e = .returned (.bool true) ∧ Below w.heap.size w w' := by
  clear _hsh _hL
  have H1 := Lib.hid (fun w => HeadRead_any s w hs)
  have H2 := Lib.hid (fun w => HeadOf_any s w hs)
  generalize headOf s = p at *
  obtain ⟨n, e0⟩ := p
  go_enter Tryd.func3, Tryd.ntmps3
  go_wp2_with fail
  refine (H1.out _).mono ?_
  rintro e w1 ⟨rfl, hb⟩
  have HB1 := Lib.hid hb
  have HBX := Lib.hid (hb.alloc hb.size (headBox n 23))
  have HA1 := Lib.hid (headAt_box w1 n 23)
  clear hb
  go_wp2_with fail
  refine (H2.out _).mono ?_
  rintro e w2 ⟨rfl, hb⟩
  have HA2 := Lib.hid (HA1.out.below hb HA1.out.lt)
  have HB2 := Lib.hid (HBX.out.trans (hb.mono HBX.out.size))
  have HB3 := Lib.hid (HB2.out.alloc HB2.out.size (headBox n 23))
  have HA3 := Lib.hid (HA2.out.below ((Below.refl w2.heap.size w2).alloc (Nat.le_refl _) (headBox n 23)) HA2.out.lt)
  have HC3 := Lib.hid (headAt_box w2 n 23)
  clear hb
  have q1 : (e0 == e0) = true := by simp
  obtain ⟨h0, h1, h2, h3, h4, h5, h6, h7, h8, h9, h10⟩ := HA3.out
  go_wp2
  go_ret
  exact ⟨rfl, HB3.out⟩
end Go.Proofs.YtiiojjhfncefgabDoor
