/-
  The box of a node.
-/
import Derived.Test.YtaffgndickdbiaaDoorTreeCheck
namespace Go.Proofs.YtaffgndickdbiaaDoor
set_option linter.unusedVariables false
set_option linter.unusedSimpArgs false
open Go.Creel Go.RowKit
abbrev boxOf (x : Nod) : Obj := .cells #[.string x.path, .int .i64 x.kind, .int .i64 x.same, .string x.target, .int .i64 x.mt.mode, .int .i64 x.mt.uid, .int .i64 x.mt.gid, .string x.mt.user, .string x.mt.group, .int .i64 x.mt.second, .int .i64 x.mt.nano, .slice x.da x.data.length x.dcap] 60
theorem grown_below {w w1 w2 : World} {mb : Nat} (hb : Below w.heap.size w w1) (hg : w1.grownBy w2 (some mb)) : w.grownBy w2 (some mb) := by
  obtain ⟨a1, a2, a3, a4, a5⟩ := hg
  exact ⟨a1.trans hb.os, a2.trans hb.tape, a3.trans hb.output, Nat.le_trans hb.size a4, fun k hk hne => (a5 k (Nat.lt_of_lt_of_le hk hb.size) hne).trans (hb.block k hk)⟩
end Go.Proofs.YtaffgndickdbiaaDoor
