/-
  The nil cases of link.Firsts and of the two references.
-/
import Derived.Test.YtaffgndickdbiaaDoorNamesR
import Derived.Test.YtaffgndickdbiaaDoorLinkLA
namespace Go.Proofs.YtaffgndickdbiaaDoor
set_option linter.unusedVariables false
set_option linter.unusedSimpArgs false
open Go.Creel Go.RowKit
set_option maxRecDepth 100000 in
theorem LinkR_nil (a : Option Addr) (cap : Nat) (w : World) (h : SliceC maxLen 12 (NodC maxLen) w [.slice a 0 cap] []) :
    Calls Tryd.prog 79 #[.slice a 0 cap] w (RetIE 3 w (linkFirsts [])) := by

  have H := Lib.hid h
  have HF := Lib.hid (show linkFirsts [] = ([], 0) from linkFirsts_ok treeFault_zero)
  clear h 
  go_enter Tryd.func79, Tryd.ntmps79
  go_wp2_with fail
  refine (TreeFault_any _ [] _ H.out).mono ?_
  rintro e wa ⟨rfl, hb⟩
  rw [treeFault_zero]
  have HB := Lib.hid hb
  clear hb
  go_wp2
  go_loop [5, 6, 7] (fun v i _ => i = .int .i64 0 ∧ v = .slice none 0 0) (fun _ _ _ => 0)
  case atStart => exact ⟨rfl, rfl⟩
  case round =>
    obtain ⟨rfl, rfl⟩ := hrel
    go_wp2
    go_ret2
    rw [HF.out]
    exact ⟨_, rfl, World.ownsRow_nil _ _ _ 1, HB.out⟩
set_option maxRecDepth 100000 in
theorem NamesR_nil (a : Option Addr) (cap : Nat) (w : World) (h : SliceC maxLen 12 (NodC maxLen) w [.slice a 0 cap] []) :
    Calls Tryd.prog 80 #[.slice a 0 cap] w (RetIE 3 w (linkNames [])) := by

  have H := Lib.hid h
  have HF := Lib.hid (show linkNames [] = ([], 0) from linkNames_ok treeFault_zero)
  clear h 
  go_enter Tryd.func80, Tryd.ntmps80
  go_wp2_with fail
  refine (TreeFault_any _ [] _ H.out).mono ?_
  rintro e wa ⟨rfl, hb⟩
  rw [treeFault_zero]
  have HB := Lib.hid hb
  clear hb
  go_wp2
  go_loop [5, 6, 7, 8] (fun v i _ _ => i = .int .i64 0 ∧ v = .slice none 0 0) (fun _ _ _ _ => 0)
  case atStart => exact ⟨rfl, rfl⟩
  case round =>
    obtain ⟨rfl, rfl⟩ := hrel
    go_wp2
    go_ret2
    rw [HF.out]
    exact ⟨_, rfl, World.ownsRow_nil _ _ _ 1, HB.out⟩
theorem LinkR_any (v : Value) (l : List Nod) (w : World) (h : SliceC maxLen 12 (NodC maxLen) w [v] l) :
    Calls Tryd.prog 79 #[v] w (RetIE 3 w (linkFirsts l)) := by
  rcases nods_cases h with ⟨a, cap, rfl, rfl, _⟩ | ⟨b, off, cap, rfl, h1, h2, h3, _, h4, h5⟩
  · exact LinkR_nil a cap w h
  · exact LinkR_at b off cap l w h1 h2 h3 h4 h
theorem NamesR_any (v : Value) (l : List Nod) (w : World) (h : SliceC maxLen 12 (NodC maxLen) w [v] l) :
    Calls Tryd.prog 80 #[v] w (RetIE 3 w (linkNames l)) := by
  rcases nods_cases h with ⟨a, cap, rfl, rfl, _⟩ | ⟨b, off, cap, rfl, h1, h2, h3, _, h4, h5⟩
  · exact NamesR_nil a cap w h
  · exact NamesR_at b off cap l w h1 h2 h3 h4 h
end Go.Proofs.YtaffgndickdbiaaDoor
