/-
  link.Firsts, at every argument.
-/
import Derived.Test.YtaffgndickdbiaaDoorLinkF
namespace Go.Proofs.YtaffgndickdbiaaDoor
set_option linter.unusedVariables false
set_option linter.unusedSimpArgs false
open Go.Creel Go.RowKit
set_option maxRecDepth 100000 in
theorem LinkL_nil (a : Option Addr) (cap : Nat) (w : World) (hM : MaxOk w) (h : SliceC maxLen 12 (NodC maxLen) w [.slice a 0 cap] []) :
    Calls Tryd.prog 77 #[.slice a 0 cap] w (RetIE 3 w (linkFirsts [])) := by
  have HM := Lib.hid hM
  have H := Lib.hid h
  have HF := Lib.hid (show linkFirsts [] = ([], 0) from linkFirsts_ok treeFault_zero)
  have hmm := @run_makeMap Tryd.prog
  clear h hM
  go_enter Tryd.func77, Tryd.ntmps77
  go_wp2_with fail
  refine (TreeCheck_any _ [] _ HM.out H.out).mono ?_
  rintro e wa ⟨rfl, hb⟩
  rw [treeFault_zero]
  have HB := Lib.hid hb
  clear hb
  have HB1 := Lib.hid ((HB.out.alloc HB.out.size (.map #[] 0)))
  have HB2 := Lib.hid (HB1.out.alloc HB1.out.size (.cells #[.map (some wa.heap.size)] 131))
  go_wp2
  go_loop [6, 7, 8, 19] (fun v _ _ i => i = .int .i64 0 ∧ v = .slice none 0 0) (fun _ _ _ _ => 0)
  case atStart => exact ⟨rfl, rfl⟩
  case round =>
    obtain ⟨rfl, rfl⟩ := hrel
    go_wp2
    go_ret2
    rw [HF.out]
    exact ⟨_, rfl, World.ownsRow_nil _ _ _ 1, HB2.out⟩
theorem LinkL_any (v : Value) (l : List Nod) (w : World) (hM : MaxOk w) (h : SliceC maxLen 12 (NodC maxLen) w [v] l) :
    Calls Tryd.prog 77 #[v] w (RetIE 3 w (linkFirsts l)) := by
  rcases nods_cases h with ⟨a, cap, rfl, rfl, _⟩ | ⟨b, off, cap, rfl, h1, h2, h3, _, h4, h5⟩
  · exact LinkL_nil a cap w hM h
  · exact LinkL_at b off cap l w hM h1 h2 h3 h4 h
end Go.Proofs.YtaffgndickdbiaaDoor
