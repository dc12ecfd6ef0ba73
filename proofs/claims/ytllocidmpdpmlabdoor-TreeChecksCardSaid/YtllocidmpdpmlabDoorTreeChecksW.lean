/-
  The law TreeChecks, walked.
-/
import Derived.Test.YtllocidmpdpmlabDoorTreeCheck
import Derived.Test.YtllocidmpdpmlabDoorMaxOk
import Derived.Test.YtllocidmpdpmlabDoorLaid
namespace Go.Proofs.YtllocidmpdpmlabDoor
set_option linter.unusedVariables false
open Go.Creel Go.RowKit
set_option maxRecDepth 100000 in
set_option maxHeartbeats 1000000 in
theorem treeChecks_walk (w : World) (v : Value) (l : List Nod) (h : SliceC maxLen 12 (NodC maxLen) w [v] l) (s : ByteArray) (hs : s.size ≤ maxLen) (hsh : w.ShapedOpen Tryd.prog) (_hL : laidMetH Tryd.prog Rows.treeChecksRow.laid w) :
    Calls Tryd.prog 3 #[v, .string s] w fun e w' => e = .returned (.bool true) ∧ Below w.heap.size w w' := by
  have HM := Lib.hid (maxOk_of w hsh)
  have H := Lib.hid h
  have HLE := Lib.hid (treeFind_le l s)
  obtain ⟨a, cap, hv⟩ : ∃ a cap, v = .slice a l.length cap := by
    obtain ⟨a, cap, hv, _⟩ := h
    exact ⟨a, cap, by simpa using hv⟩
  subst hv
  clear h hsh _hL
  go_enter Tryd.func3, Tryd.ntmps3
  go_wp2_with fail
  refine (TreeCheck_any _ l _ HM.out H.out).mono ?_
  rintro e w1 ⟨rfl, hb⟩
  have HB1 := Lib.hid hb
  have H1 := Lib.hid (nods_below H.out hb)
  clear hb
  go_wp2_with fail
  refine (Find_any _ l s _ H1.out).mono ?_
  rintro e w2 ⟨rfl, hb⟩
  have HB2 := Lib.hid (HB1.out.trans (hb.mono HB1.out.size))
  have H2 := Lib.hid (nods_below H1.out hb)
  clear hb
  go_wp2_with fail
  refine (TreeFault_any _ l _ H2.out).mono ?_
  rintro e w3 ⟨rfl, hb⟩
  have HB3 := Lib.hid (HB2.out.trans (hb.mono HB2.out.size))
  have H3 := Lib.hid (nods_below H2.out hb)
  clear hb
  go_wp2_with fail
  refine (TreeFind_any _ l s _ H3.out).mono ?_
  rintro e w4 ⟨rfl, rfl⟩
  generalize treeFault l = q
  by_cases hn : treeFind l s < l.length
  · have hf : findIE (treeFind l s) l.length = (((treeFind l s : Nat) : Int), 0) := by unfold findIE; rw [if_pos hn]
    rw [hf]
    generalize treeFind l s = n at *
    clear hf
    go_wp2
    go_ret
    exact ⟨rfl, HB3.out⟩
  · have hf : findIE (treeFind l s) l.length = (0, 5) := by unfold findIE; rw [if_neg hn]
    rw [hf]
    have he : treeFind l s = l.length := by have := HLE.out; omega
    rw [he]
    clear hf
    go_wp2
    go_ret
    exact ⟨rfl, HB3.out⟩
end Go.Proofs.YtllocidmpdpmlabDoor
