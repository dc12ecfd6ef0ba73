/-
  The program's plain types as Lean's, and what a reading at each says of the cells.
-/
import Derived.Test.YtiiojjhfncefgabRows
import Derived.Test.YtiiojjhfncefgabBase
namespace Go.Creel
structure Rec where
  key : ByteArray
  value : ByteArray
def RecC (N : Nat) (_ : World) (cs : List Value) (r : Rec) : Prop := cs = [.string r.key, .string r.value] ∧ r.key.size ≤ N ∧ r.value.size ≤ N
structure Meta where
  mode : Int
  uid : Int
  gid : Int
  user : ByteArray
  group : ByteArray
  second : Int
  nano : Int
def Meta.cells (m : Meta) : List Value := [.int .i64 m.mode, .int .i64 m.uid, .int .i64 m.gid, .string m.user, .string m.group, .int .i64 m.second, .int .i64 m.nano]
def i64 (n : Int) : Prop := -9223372036854775808 ≤ n ∧ n ≤ 9223372036854775807
structure Meta.Ok (N : Nat) (m : Meta) : Prop where
  mode : i64 m.mode
  uid : i64 m.uid
  gid : i64 m.gid
  user : m.user.size ≤ N
  group : m.group.size ≤ N
  second : i64 m.second
  nano : i64 m.nano
def MetaC (N : Nat) (_ : World) (cs : List Value) (m : Meta) : Prop := cs = m.cells ∧ m.Ok N

end Go.Creel

namespace Go.Proofs.Ytiiojjhfncefgab
open Go.Creel Go.ChangeShapes
section
variable {H : Type} {enc : TypeId × Value → H} {W : World} {S : DataW H → Prop} {N : Nat}
theorem opens_Str (hS : Bd H S N) : Opens enc Try.prog W S 9 (StrC N) := opens_str hS Try.underlying9
theorem opens_Int : Opens enc Try.prog W S 3 IntC := opens_int Try.underlying3
theorem opens_Bytes (hS : Bd H S N) : Opens enc Try.prog W S 37 (SliceC N 1 ByteC) := opens_slice hS Try.underlying37 (by kernel_rfl) (by decide) (opens_byte Try.underlying5)
end
end Go.Proofs.Ytiiojjhfncefgab
