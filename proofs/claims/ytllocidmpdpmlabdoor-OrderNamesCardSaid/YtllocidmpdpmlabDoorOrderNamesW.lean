/-
  The law OrderNames, walked.
-/
import Derived.Test.YtllocidmpdpmlabDoorOrderNames
import Derived.Test.YtllocidmpdpmlabDoorMaxOk
import Derived.Test.YtllocidmpdpmlabDoorLaid
namespace Go.Proofs.YtllocidmpdpmlabDoor
set_option linter.unusedVariables false
open Go.Creel Go.RowKit
theorem orderNames_len (l : List Nod) (dir : ByteArray) : (orderNames l dir).1.length ≤ 8000000000 := by
  by_cases h : treeFault l = 0
  · have h1 := (treeFault_all h).1
    have h2 := namesL_len l dir l.length
    unfold orderNames
    split
    · simp
    · split
      · simp
      · split
        · simp
        · simp; omega
  · rw [orderNames_bad h]; simp
set_option maxRecDepth 100000 in
set_option maxHeartbeats 1000000 in
theorem orderNames_walk (w : World) (v : Value) (l : List Nod) (h : SliceC maxLen 12 (NodC maxLen) w [v] l) (s : ByteArray) (hs : s.size ≤ maxLen) (hsh : w.ShapedOpen Tryd.prog) (_hL : laidMetH Tryd.prog Rows.orderNamesRow.laid w) :
    Calls Tryd.prog 9 #[v, .string s] w fun e w' => e = .returned (.bool true) ∧ Below w.heap.size w w' := by
  have HM := Lib.hid (maxOk_of w hsh)
  have H := Lib.hid h
  have HL := Lib.hid (orderNames_len l s)
  have HA := Lib.hid (fun (w : World) (hM : MaxOk w) (h : SliceC maxLen 12 (NodC maxLen) w [v] l) => OrderNamesL_any v l s w hM h hs)
  have HR := Lib.hid (fun (w : World) (hM : MaxOk w) (h : SliceC maxLen 12 (NodC maxLen) w [v] l) => OrderNamesR_any v l s w hM h hs)
  generalize orderNames l s = p at *
  obtain ⟨names, err⟩ := p
  clear h hsh _hL
  go_enter Tryd.func9, Tryd.ntmps9
  go_wp2_with fail
  refine (HA.out _ HM.out H.out).mono ?_
  rintro e w1 ⟨v1, rfl, ho, hb⟩
  have HB1 := Lib.hid hb
  have HO1 := Lib.hid ho
  have H1 := Lib.hid (nods_below H.out hb)
  have HM1 := Lib.hid (HM.out.below hb)
  clear hb ho
  go_wp2_with fail
  refine (HR.out _ HM1.out H1.out).mono ?_
  rintro e w2 ⟨v2, rfl, ho, hb⟩
  have HB2 := Lib.hid (HB1.out.trans (hb.mono HB1.out.size))
  have HO2 := Lib.hid (HO1.out.below hb)
  have HP2 := Lib.hid ho
  clear hb ho
  go_wp2_with fail
  refine (lawTexts_eq _ _ _ _ _ _ HL.out HO2.out HP2.out).mono ?_
  rintro e w3 ⟨rfl, hb⟩
  have HB3 := Lib.hid (HB2.out.trans (hb.mono HB2.out.size))
  clear hb
  go_wp2
  go_ret
  exact ⟨rfl, HB3.out⟩
end Go.Proofs.YtllocidmpdpmlabDoor
