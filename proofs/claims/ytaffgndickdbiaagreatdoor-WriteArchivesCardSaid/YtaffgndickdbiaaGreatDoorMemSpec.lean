/-
  A member's records and head: the plain words.
-/
import Derived.Test.YtaffgndickdbiaaGreatDoorStamp
import Derived.Test.YtaffgndickdbiaaGreatDoorCut
import Derived.Test.YtaffgndickdbiaaGreatDoorEntAll
import Derived.Test.YtaffgndickdbiaaGreatDoorHeadN
import Derived.Test.YtaffgndickdbiaaGreatDoorRecsOwn
namespace Go.Creel
set_option linter.unusedVariables false
set_option linter.unusedSimpArgs false
open Go.RowKit
abbrev kGid : ByteArray := ⟨#[103, 105, 100]⟩
abbrev kGname : ByteArray := ⟨#[103, 110, 97, 109, 101]⟩
abbrev kLink : ByteArray := ⟨#[108, 105, 110, 107, 112, 97, 116, 104]⟩
abbrev kMtime : ByteArray := ⟨#[109, 116, 105, 109, 101]⟩
abbrev kPath : ByteArray := ⟨#[112, 97, 116, 104]⟩
abbrev kUid : ByteArray := ⟨#[117, 105, 100]⟩
abbrev kUname : ByteArray := ⟨#[117, 110, 97, 109, 101]⟩
abbrev sLong : ByteArray := ⟨#[64, 108, 111, 110, 103]⟩
def itoaB (n : Int) : ByteArray := ofL (Lib.itoa n)
/-- what a number says in a record, if it is greater than m -/
def recNum (k : ByteArray) (n m : Int) : List Rec := if m < n then [⟨k, itoaB n⟩] else []
def recText1 (k s : ByteArray) (m : Nat) : List Rec := if m < s.size then [⟨k, s⟩] else []
def hidNum (n m : Int) : Int := if m < n then 0 else n
def hidText (s : ByteArray) (m : Nat) (i : ByteArray) : ByteArray := if m < s.size then i else s
/-- is a time one that a head has no room for? -/
def timeOdd (m : Meta) : Prop := 0 < m.nano ∨ m.second < 0 ∨ 8589934591 < m.second
instance (m : Meta) : Decidable (timeOdd m) := by unfold timeOdd; infer_instance
def recTime (m : Meta) : List Rec := if timeOdd m then [⟨kMtime, (timeText m.second m.nano).1⟩] else []
def hidTime (m : Meta) : Int := if timeOdd m then 0 else m.second
noncomputable def recPath (s : ByteArray) : List Rec := if (cutTwo s).2.2 = 0 then [] else [⟨kPath, s⟩]
noncomputable def hidPath (s : ByteArray) : ByteArray := if (cutTwo s).2.2 = 0 then (cutTwo s).2.1 else sLong
/-- the records of a member that is right -/
noncomputable def memRecs (x : Ent) : List Rec :=
  recNum kGid x.mt.gid 2097151 ++ recText1 kGname x.mt.group 31 ++ recText1 kLink x.target 100 ++ recTime x.mt ++ recPath x.path ++ recNum kUid x.mt.uid 2097151 ++ recText1 kUname x.mt.user 31
/-- the sign of a kind in a head -/
def kindT (k : Int) : UInt8 := if k = 1 then 48 else if k = 2 then 53 else if k = 3 then 50 else 49
noncomputable def memHead (x : Ent) : HeadN :=
  ⟨hidPath x.path, (cutTwo x.path).1, hidText x.target 100 sLong, x.mt.mode, hidNum x.mt.uid 2097151, hidNum x.mt.gid 2097151, x.data.length, hidTime x.mt, kindT x.kind, hidText x.mt.user 31 ByteArray.empty, hidText x.mt.group 31 ByteArray.empty⟩
noncomputable def recordsOf (x : Ent) : List Rec × Int := if entFault x = 0 then (memRecs x, 0) else ([], entFault x)
def headZ : HeadN := ⟨ByteArray.empty, ByteArray.empty, ByteArray.empty, 0, 0, 0, 0, 0, 0, ByteArray.empty, ByteArray.empty⟩
noncomputable def mHeadOf (x : Ent) : HeadN × Int := if entFault x = 0 then (memHead x, 0) else (headZ, entFault x)
theorem recordsOf_ok {x : Ent} (h : entFault x = 0) : recordsOf x = (memRecs x, 0) := if_pos h
theorem recordsOf_bad {x : Ent} (h : ¬ entFault x = 0) : recordsOf x = ([], entFault x) := if_neg h
theorem mHeadOf_ok {x : Ent} (h : entFault x = 0) : mHeadOf x = (memHead x, 0) := if_pos h
theorem mHeadOf_bad {x : Ent} (h : ¬ entFault x = 0) : mHeadOf x = (headZ, entFault x) := if_neg h
theorem recNum_len (k : ByteArray) (n m : Int) : (recNum k n m).length ≤ 1 := by unfold recNum; split <;> simp
theorem recText1_len (k s : ByteArray) (m : Nat) : (recText1 k s m).length ≤ 1 := by unfold recText1; split <;> simp
theorem recTime_len (m : Meta) : (recTime m).length ≤ 1 := by unfold recTime; split <;> simp
theorem recPath_len (s : ByteArray) : (recPath s).length ≤ 1 := by unfold recPath; split <;> simp
theorem more_len {a b : List Rec} {n : Nat} (h : a.length ≤ n) (hb : b.length ≤ 1) : (a ++ b).length ≤ n + 1 := by rw [List.length_append]; omega
theorem recNum_yes {k : ByteArray} {n m : Int} (h : m < n) : recNum k n m = [⟨k, itoaB n⟩] ∧ hidNum n m = 0 := ⟨if_pos h, if_pos h⟩
theorem recNum_no {k : ByteArray} {n m : Int} (h : ¬ m < n) : recNum k n m = [] ∧ hidNum n m = n := ⟨if_neg h, if_neg h⟩
theorem recText1_yes {k s i : ByteArray} {m : Nat} (h : m < s.size) : recText1 k s m = [⟨k, s⟩] ∧ hidText s m i = i := ⟨if_pos h, if_pos h⟩
theorem recText1_no {k s i : ByteArray} {m : Nat} (h : ¬ m < s.size) : recText1 k s m = [] ∧ hidText s m i = s := ⟨if_neg h, if_neg h⟩
end Go.Creel
