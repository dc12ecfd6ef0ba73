/-
  Bytes as strings; the law's own comparison of two slices of bytes.
-/
import Derived.Test.YtaffgndickdbiaaGreatDoorData
import Derived.Test.YtaffgndickdbiaaGreatDoorAppend
namespace Go.Creel
set_option linter.unusedVariables false
/-- 'string(b)' -/
theorem conv_bytes {P : Program} {w : World} {N : Nat} {v : Value} {l : List UInt8} (src e dst : TypeId) (hs : P.underlying src = some (.slice e)) (he : P.underlying e = some (.int .u8)) (hd : P.underlying dst = some .string)
    (h : SliceC N 1 ByteC w [v] l) : (convert src dst v).run P w = .ok (.string (ofL l)) w := by
  rcases bytes_cases h with ⟨a, cap, rfl, rfl⟩ | ⟨b, off, cap, rfl, hpos, hle, hm, _, hc⟩
  · cases a with
    | none => exact run_convert_bytes_nil w src e hs he 0 cap dst hd
    | some a =>
      rw [run_convert_bytes_string w src dst e _ 0 cap hs he hd, run_bytesToString w a 0 cap [] (by simp [loadCells, loadCellsFrom])]
      rfl
  · have hx : strOfNums (l.map fun c => (c.toNat : Int)) = ofL l := by
      apply ext_bytes
      rw [strOfNums_data, ofL_data, List.map_map]
      conv => rhs; rw [← List.map_id l]
      apply List.map_congr_left
      intro c _
      simp
    rw [← hx]
    refine run_convert_bytes_arg w src e hs he b off l.length cap _ (by simp) (fun i hi => ?_) dst hd
    rw [hc i hi]
    simp [bl, List.getD_eq_getElem?_getD, List.getElem?_eq_getElem hi]
theorem ofL_inj {a b : List UInt8} (h : ofL a = ofL b) : a = b := by
  have := congrArg (fun s => s.data.toList) h
  simpa [ofL_data] using this
end Go.Creel
namespace Go.Proofs.YtaffgndickdbiaaGreatDoor
set_option linter.unusedVariables false
open Go.Creel Go.RowKit
theorem conv (w : World) {N : Nat} {v : Value} {l : List UInt8} (h : SliceC N 1 ByteC w [v] l) : (convert 24 9 v).run Tryz.prog w = .ok (.string (ofL l)) w :=
  conv_bytes _ _ _ Tryz.underlying24 Tryz.underlying5 Tryz.underlying9 h
set_option maxRecDepth 100000 in
theorem sameBytes_eq {N M : Nat} (v u : Value) (l : List UInt8) (w : World) (h1 : SliceC N 1 ByteC w [v] l) (h2 : SliceC M 1 ByteC w [u] l) :
    Calls Tryz.prog 13 #[v, u] w fun e w' => e = .returned (.bool true) ∧ w = w' := by
  have c1 := conv w h1
  have c2 := conv w h2
  clear h1 h2
  go_enter Tryz.func13, Tryz.ntmps13
  go_wp2
  go_ret
  exact ⟨rfl, rfl⟩
end Go.Proofs.YtaffgndickdbiaaGreatDoor
