/-
  The verdict on a node.
-/
import Derived.Test.YtaffgndickdbiaaDoorNodes
import Derived.Test.YtaffgndickdbiaaDoorMetaCheck
import Derived.Test.YtaffgndickdbiaaDoorPathFault
namespace Go.Creel
set_option linter.unusedVariables false
def hasN (s : ByteArray) : Nat := if hasB s 0 = true then 1 else 0
theorem hasN_t {s : ByteArray} (h : hasB s 0 = true) : hasN s = 1 := by unfold hasN; rw [if_pos h]
theorem hasN_f {s : ByteArray} (h : hasB s 0 = false) : hasN s = 0 := by unfold hasN; rw [h]; rfl
/-- the verdict on a node, out of its parts' -/
def nodFaultN (p m kind same : Int) (dl ts h : Nat) : Int :=
  if ¬ p = 0 then p else if ¬ m = 0 then m
  else if kind = 1 then (if ¬ ts = 0 ∨ same < 0 then 3 else if 2000 < dl then 1 else 0)
  else if kind = 2 ∨ kind = 3 then (if 0 < dl ∨ ¬ same = 0 ∨ (kind = 2 ∧ ¬ ts = 0) ∨ (kind = 3 ∧ (ts = 0 ∨ h = 1)) then 3 else if 400 < ts then 1 else 0)
  else 2
def nodFault (e : Nod) : Int := nodFaultN (pathFault e.path) (metaFault e.mt) e.kind e.same e.data.length e.target.size (hasN e.target)
abbrev Nod.val (e : Nod) : Value := .agg #[.string e.path, .int .i64 e.kind, .int .i64 e.same, .string e.target, .int .i64 e.mt.mode, .int .i64 e.mt.uid, .int .i64 e.mt.gid, .string e.mt.user, .string e.mt.group, .int .i64 e.mt.second, .int .i64 e.mt.nano, .slice e.da e.data.length e.dcap]
theorem has_empty {s : ByteArray} (h : s.size = 0) : hasB s 0 = false := by
  have e : s.data.toList = [] := List.eq_nil_of_length_eq_zero (by rw [← Lib.size_eq s]; exact h)
  unfold hasB; rw [e]; rfl
end Go.Creel
