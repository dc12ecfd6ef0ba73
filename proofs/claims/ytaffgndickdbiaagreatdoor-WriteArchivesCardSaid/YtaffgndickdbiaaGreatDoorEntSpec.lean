/-
  The verdict on an entry.
-/
import Derived.Test.YtaffgndickdbiaaGreatDoorNodes
import Derived.Test.YtaffgndickdbiaaGreatDoorMetaCheck
import Derived.Test.YtaffgndickdbiaaGreatDoorPathFault
namespace Go.Creel
set_option linter.unusedVariables false
/-- the verdict on an entry, out of its parts' -/
def entFaultN (p m kind : Int) (dl ts : Nat) (q : Int) (h : Bool) : Int :=
  if ¬ p = 0 then p else if ¬ m = 0 then m else if kind < 1 ∨ 4 < kind then 2
  else if (¬ kind = 1 ∧ 0 < dl) ∨ (¬ ts = 0 ∧ kind < 3) ∨ (ts = 0 ∧ 3 ≤ kind) then 3
  else if 2000 < dl ∨ 400 < ts then 1 else if kind = 4 then q else if h = true then 3 else 0
def entFault (e : Ent) : Int := entFaultN (pathFault e.path) (metaFault e.mt) e.kind e.data.length e.target.size (pathFault e.target) (hasB e.target 0)
abbrev Ent.val (e : Ent) : Value := .agg #[.string e.path, .int .i64 e.kind, .string e.target, .int .i64 e.mt.mode, .int .i64 e.mt.uid, .int .i64 e.mt.gid, .string e.mt.user, .string e.mt.group, .int .i64 e.mt.second, .int .i64 e.mt.nano, .slice e.da e.data.length e.dcap]
end Go.Creel
