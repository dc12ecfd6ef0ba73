/-
  pad.Blocks, pad.Fill and their references.
-/
import Derived.Test.YtllocidmpdpmlaaDoorSame
namespace Go.Creel
set_option linter.unusedVariables false
open Go.RowKit
def padBlocks (n : Int) : Int × Int := if 0 ≤ n ∧ n ≤ 8589934591 then ((n + 511) / 512, 0) else (0, 4)
def padLack (n : Nat) : Nat := (512 - n % 512) % 512
def padFill (l : List UInt8) : List UInt8 := l ++ List.replicate (padLack l.length) 0
/-- A slice of bytes is handed back, new, and nothing that was there is written. -/
def RetBs (t : TypeId) (w : World) (l : List UInt8) (e : Ending) (w' : World) : Prop := ∃ v, e = .returned v ∧ OwnBs t w' w.heap.size v l ∧ Below w.heap.size w w'
/-- the length in a slot, for a measure -/
def vlen : Value → Nat | .slice _ n _ => n | _ => 0
theorem padLack_zero {n m : Nat} (h : (n + m) % 512 = 0) (hm : m ≤ padLack n) : m = padLack n := by unfold padLack at *; omega
theorem padLack_lt {n m : Nat} (h : (n + m) % 512 ≠ 0) (hm : m ≤ padLack n) : m < padLack n := by unfold padLack at *; omega
theorem padLack_lt512 (n : Nat) : padLack n < 512 := by unfold padLack; omega
theorem rep_snoc (l : List UInt8) (m : Nat) : l ++ List.replicate m 0 ++ [0] = l ++ List.replicate (m + 1) 0 := by rw [List.append_assoc, List.replicate_succ']
end Go.Creel
namespace Go.Proofs.YtllocidmpdpmlaaDoor
set_option linter.unusedVariables false
open Go.Creel Go.RowKit
set_option maxRecDepth 100000 in
theorem Blocks_any (n : Int) (w : World) (hn : i64 n) :
    Calls Tryd.prog 36 #[.int .i64 n] w fun e w' => e = .returned (.tuple #[.int .i64 (padBlocks n).1, .int .i64 (padBlocks n).2]) ∧ w = w' := by
  unfold i64 at hn
  by_cases h : 0 ≤ n ∧ n ≤ 8589934591
  · have HF := Lib.hid (show padBlocks n = ((n + 511) / 512, 0) by unfold padBlocks; rw [if_pos h])
    obtain ⟨h1, h2⟩ := h
    go_enter Tryd.func36, Tryd.ntmps36
    go_wp2
    go_ret2
    exact ⟨ret_ii (by rw [HF.out]; congr 2; omega), rfl⟩
  · have HF := Lib.hid (show padBlocks n = (0, 4) by unfold padBlocks; rw [if_neg h])
    have HN := Lib.hid h
    clear h
    go_enter Tryd.func36, Tryd.ntmps36
    go_wp2
    all_goals first
      | (exfalso; have := HN.out; omega)
      | (go_ret2; exact ⟨ret_ii HF.out, rfl⟩)
set_option maxRecDepth 100000 in
theorem PadBlocks_any (n : Int) (w : World) (hn : i64 n) :
    Calls Tryd.prog 38 #[.int .i64 n] w fun e w' => e = .returned (.tuple #[.int .i64 (padBlocks n).1, .int .i64 (padBlocks n).2]) ∧ w = w' := by
  unfold i64 at hn
  by_cases h : 0 ≤ n ∧ n ≤ 8589934591
  · have HF := Lib.hid (show padBlocks n = ((n + 511) / 512, 0) by unfold padBlocks; rw [if_pos h])
    obtain ⟨h1, h2⟩ := h
    go_enter Tryd.func38, Tryd.ntmps38
    go_wp2
    all_goals (go_ret2; exact ⟨ret_ii (by rw [HF.out]; congr 1; omega), rfl⟩)
  · have HF := Lib.hid (show padBlocks n = (0, 4) by unfold padBlocks; rw [if_neg h])
    have HN := Lib.hid h
    clear h
    go_enter Tryd.func38, Tryd.ntmps38
    go_wp2
    all_goals first
      | (exfalso; have := HN.out; omega)
      | (go_ret2; exact ⟨ret_ii HF.out, rfl⟩)
theorem info_byte2 : (Tryd.prog.info? 5).map (fun i => (i.zero, i.size, i.bytes)) = some (some (.int .u8 0), 1, 1) := by kernel_rfl
end Go.Proofs.YtllocidmpdpmlaaDoor
