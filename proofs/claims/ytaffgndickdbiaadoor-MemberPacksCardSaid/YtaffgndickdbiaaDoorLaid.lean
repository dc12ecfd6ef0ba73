/-
  A world that holds the library's tables, for the witness of a row that lists them.
-/
import Derived.Test.YtaffgndickdbiaaDoorRows
import Derived.Deep.DeepHandedRow
import Derived.Lib.LaidTab
namespace Go.Creel
/-- a datum of numbers, arrays and structs of these, as cells -/
def dcells : Nat → DataW Unit → List Value
  | 0, _ => []
  | _ + 1, .lit (.int k n) => [.int k n]
  | m + 1, .agg ps => ps.flatMap (dcells m)
  | _ + 1, _ => []
/-- the world with these variables laid -/
def layAll (w : World) (l : List (Nat × DataW Unit)) : World :=
  { w with heap := l.foldl (fun h x => h.modify x.1 fun
    | .cells _ t fr => .cells (dcells 4 x.2).toArray t fr
    | o => o) w.heap }
/-- the world with an error of the library's made: one block more, and the variable that points there -/
def layErr (w : World) (x : Nat × TypeId × TypeId × List UInt8) : World :=
  { w with heap := (w.heap.push (.cells #[.string ⟨x.2.2.2.toArray⟩] x.2.2.1 (0, 0))).modify x.1 fun
    | .cells _ t fr => .cells #[.iface x.2.1 (.pointer (some ⟨w.heap.size, 0, none⟩))] t fr
    | o => o }
end Go.Creel
