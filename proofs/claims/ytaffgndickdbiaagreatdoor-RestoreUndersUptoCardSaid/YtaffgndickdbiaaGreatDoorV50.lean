/- A part of the proof. -/
import Derived.Test.YtaffgndickdbiaaGreatDoorRows
import Derived.Deep.DeepHandedRow
import Derived.Lib.LaidTab
import Derived.Test.YtaffgndickdbiaaGreatDoorV01
set_option linter.unusedVariables false
set_option linter.unusedSimpArgs false
namespace Go.Creel
def F8v : Nat → DataW Unit → List Value
 | 0,_=>[]
 | _+1,.lit (.int k n)=>[.int k n]
 | m+1,.agg ps=>ps.flatMap (F8v m)
 | _+1,_=>[]
def layAll (w : World) (l : List (Nat × DataW Unit)) : World :=
 { w with heap:=l.foldl (fun h x=>h.modify x.1 fun
   | .cells _ t fr => .cells (F8v 4 x.2).toArray t fr
   | o=>o) w.heap }
def layErr (w : World) (x : Nat × TypeId × TypeId × List UInt8) : World :=
 { w with heap:=(w.heap.push (.cells #[.string ⟨x.2.2.2.toArray⟩] x.2.2.1 (0,0))).modify x.1 fun
   | .cells _ t fr => .cells #[.iface x.2.1 (.pointer (some ⟨w.heap.size,0,none⟩))] t fr
   | o=>o }
end Go.Creel
namespace Go.Proofs.YtaffgndickdbiaaGreatDoor
open Go.Creel
def C0x (H : Type) (d : DataW H) : Prop := Rows.uptoBulk d ≤ 1048576
theorem F7q {H : Type} (d : DataW H) : 1 ≤ Rows.uptoBulk d := by
 cases d with
 | lit l=>cases l<;>simp [Rows.uptoBulk]
 | nil=>simp [Rows.uptoBulk]
 | ptr d=>simp [Rows.uptoBulk]
 | slice elems spare=>simp [Rows.uptoBulk]
 | agg parts=>simp [Rows.uptoBulk]
 | iface t d=>simp [Rows.uptoBulk]
 | map entries=>simp [Rows.uptoBulk]
 | held h=>simp [Rows.uptoBulk]
theorem C9w {H : Type} {d : DataW H} {l : List (DataW H)} (h : d ∈ l) : Rows.uptoBulk d ≤ Rows.uptoBulkAll l := by
 induction l with
 | nil=>cases h
 | cons x r ih =>
   simp only [Rows.uptoBulkAll];cases List.mem_cons.1 h with
   | inl e=>subst e;omega
   | inr e=>have:=ih e;omega
theorem E0f {H : Type} (l : List (DataW H)) : l.length ≤ Rows.uptoBulkAll l := by
 induction l with
 | nil=>simp [Rows.uptoBulkAll]
 | cons x r ih=>have:=F7q x;simp only [Rows.uptoBulkAll,List.length_cons];omega
theorem bulk_bd (H : Type) : Bd H (C0x H) 1048576 where
 str l h _:=by
  simp only [C0x,Rows.uptoBulk] at h;omega
 slc el sp h _:=by
  simp only [C0x,Rows.uptoBulk] at h;have:=E0f el;exact ⟨by omega,fun d hd=>by have:=C9w hd;unfold C0x;omega⟩
 agg ps h d hd:=by
  simp only [C0x,Rows.uptoBulk] at h;have:=C9w hd;unfold C0x;omega
theorem F8q {H : Type} {ds : List (DataW H)} {d : DataW H} (hk : Rows.uptoSmall H ds = true) (h : d ∈ ds) : C0x H d := by
 have h1:Rows.uptoBulkAll ds<=1048576:=of_decide_eq_true hk;have:=C9w h;unfold C0x;omega
end Go.Proofs.YtaffgndickdbiaaGreatDoor
