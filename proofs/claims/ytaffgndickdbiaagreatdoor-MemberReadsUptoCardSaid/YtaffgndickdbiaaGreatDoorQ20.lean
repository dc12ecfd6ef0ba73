/-
  Texts: Pen, Head, RecG.
-/
import Derived.Test.YtaffgndickdbiaaGreatDoorQ14
set_option linter.unusedVariables false
set_option linter.unusedSimpArgs false
set_option linter.unusedSectionVars false
namespace Go.Creel
open Go.RowKit
def PenIs (T e : TypeId) (B b : Nat) (q : Value) (bs : List UInt8) (k : Int) (w : World) : Prop :=
 B<=b/\∃ v,w.heap[b]?=some (.cells #[q,v,.int .i64 k] T (0,0))/\OwnBs e w B v bs/\v.ownBlock≠some b
variable {T e : TypeId} {B b : Nat} {q : Value} {bs : List UInt8} {k : Int} {w : World}
theorem PenIs.lt (h : PenIs T e B b q bs k w) : b < w.heap.size := by
 obtain ⟨_,v,hb,_⟩:=h
 exact (Array.getElem?_eq_some_iff.1 hb).1
theorem ownBs_below {w w' : World} {v : Value} (h : OwnBs e w B v bs) (hb : Below w.heap.size w w') : OwnBs e w' B v bs := by
 refine ⟨h.1,?_⟩
 rcases h.2 with h0|⟨g,cap,cur,hv,hbg,hg,r⟩
 ·exact .inl h0
 ·refine .inr ⟨g,cap,cur,hv,hbg,?_,r⟩
  rw [hb.block g (Array.getElem?_eq_some_iff.1 hg).1]
  exact hg
theorem PenIs.below {w' : World} (h : PenIs T e B b q bs k w) (hw : Below w.heap.size w w') : PenIs T e B b q bs k w' := by
 have hlt:=h.lt
 obtain ⟨hB,v,hb,ho,hne⟩:=h
 exact ⟨hB,v,(hw.block b hlt).trans hb,ownBs_below ho hw,hne⟩
theorem PenIs.used (h : PenIs T e B b q bs k w) (q' : Value) : PenIs T e B b q' bs k (w.setCell ⟨b,0,none⟩ q') := by
 obtain ⟨hB,v,hb,ho,hne⟩:=h
 refine ⟨hB,v,?_,?_,hne⟩
 ·simp [World.setCell,Array.getElem?_modify,hb]
 ·refine World.ownsRow.kept (row:=some b) ho ⟨rfl,rfl,rfl,by simp [World.setCell],fun k _ hk=>Below.heap_setCell _ _ _ _ (fun e=>hk (by simp [e]))⟩ (Or.inr hne)
theorem PenIs.wrong (h : PenIs T e B b q bs k w) (k' : Int) : PenIs T e B b q bs k' (w.setCell ⟨b,2,none⟩ (.int .i64 k')) := by
 obtain ⟨hB,v,hb,ho,hne⟩:=h
 refine ⟨hB,v,?_,?_,hne⟩
 ·simp [World.setCell,Array.getElem?_modify,hb]
 ·refine World.ownsRow.kept (row:=some b) ho ⟨rfl,rfl,rfl,by simp [World.setCell],fun k _ hk=>Below.heap_setCell _ _ _ _ (fun e=>hk (by simp [e]))⟩ (Or.inr hne)
theorem PenIs.buf {v v' : Value} {bs' : List UInt8} (hB : B ≤ b) (hb : w.heap[b]? = some (.cells #[q,v,.int .i64 k] T (0,0))) (ho : OwnBs e w B v' bs') (hTe : T ≠ e) : PenIs T e B b q bs' k (w.setCell ⟨b,1,none⟩ v') := by
 have hne:=Lib.ownBlock_ne ho hb hTe
 refine ⟨hB,v',?_,?_,hne⟩
 ·simp [World.setCell,Array.getElem?_modify,hb]
 ·refine World.ownsRow.kept (row:=some b) ho ⟨rfl,rfl,rfl,by simp [World.setCell],fun k _ hk=>Below.heap_setCell _ _ _ _ (fun e=>hk (by simp [e]))⟩ (Or.inr hne)
theorem PenIs.new (T e : TypeId) (w : World) : PenIs T e w.heap.size w.heap.size (.pointer none) [] 0 (w.alloc (.cells #[.pointer none,.slice none 0 0,.int .i64 0] T)) :=
 ⟨Nat.le_refl _,.slice none 0 0,heap_alloc_new w _,World.ownsRow_nil _ _ _ _,by simp [Value.ownBlock]⟩
theorem strCells_bytes (s : ByteArray) : Lib.strCells s = s.data.toList.map byteV := rfl
end Go.Creel
namespace Go.Proofs.YtaffgndickdbiaaGreatDoor
open Go.Creel Go.RowKit
theorem info_bu : (Tryz.prog.info? 124).map (·.size) = some 2 := by kernel_rfl
theorem lies_bu : liesAt Tryz.prog Tryz.prog.depth 129 (3 / Tryz.prog.cellsOf 129) 0 124 1 = true := by kernel_rfl
theorem cells_by : Tryz.prog.cellsOf 5 = 1 := by kernel_rfl
theorem info_by : (Tryz.prog.info? 5).map (fun i => (i.zero,i.size,i.bytes)) = some (some (.int .u8 0),1,1) := by kernel_rfl
set_option maxHeartbeats 1000000 in
set_option maxRecDepth 100000 in
theorem CopyUsed (b : Nat) (w : World) (h0 : w.cell? ⟨b,0,none⟩ = some (.pointer (some ⟨b,0,none⟩))) :
 Calls Tryz.prog 150 #[.pointer (some ⟨b,0,none⟩)] w fun e w'=>e = .returned (.tuple #[])/\w'=w:=by
 obtain ⟨j,hj,_⟩:=Option.map_eq_some_iff.1 info_bu
 go_enter Tryz.func150,Tryz.ntmps150
 go_wp2
 rw [Lib.run_neq_ptr_same w _ Tryz.underlying122 hj]
 go_wp2
 go_end0
 exact ⟨rfl,rfl⟩
set_option maxHeartbeats 1000000 in
set_option maxRecDepth 100000 in
theorem CopyFresh (b : Nat) (w : World) (h0 : w.cell? ⟨b,0,none⟩ = some (.pointer none)) (hsh : w.shape? b = some (129,3)) (hfz : w.frozen? ⟨b,0,none⟩ = false) :
 Calls Tryz.prog 150 #[.pointer (some ⟨b,0,none⟩)] w fun e w'=>e = .returned (.tuple #[])/\w'=w.setCell ⟨b,0,none⟩ (.pointer (some ⟨b,0,none⟩)):=by
 obtain ⟨j,hj,hjs⟩:=Option.map_eq_some_iff.1 info_bu
 go_enter Tryz.func150,Tryz.ntmps150
 go_wp2
 rw [Lib.run_to_unsafe w ⟨b,0,none⟩ Tryz.underlying122 Tryz.underlying215 hj (by rw [hjs];decide) hsh (Nat.zero_lt_succ 2)]
 simp only [Result.andThen]
 rw [Oper.upon_value]
 go_wp2
 rw [run_callFunc_extern Tryz.func201 (by kernel_rfl) (by kernel_rfl) (by kernel_rfl) (e:=Extern.AbiNoEscape.same) (by kernel_rfl)]
 rw [Lib.run_noEscape]
 simp only [Result.andThen]
 rw [Oper.upon_value]
 go_wp2
 rw [Lib.run_from_unsafe w ⟨b,0,none⟩ Tryz.underlying215 Tryz.underlying122 hj hsh lies_bu]
 simp only [Result.andThen]
 rw [Oper.upon_value]
 go_wp2
 go_end0
 exact ⟨rfl,rfl⟩
abbrev PenAt (B b : Nat) (q : Value) (bs : List UInt8) (k : Int) (w : World) : Prop := PenIs 129 5 B b q bs k w
def PenBe (B b : Nat) (bs : List UInt8) (k : Int) (w : World) : Prop := PenAt B b (.pointer none) bs k w ∨ PenAt B b (.pointer (some ⟨b,0,none⟩)) bs k w
theorem Copy_any (B b : Nat) (bs : List UInt8) (k : Int) (w : World) (h : PenBe B b bs k w) :
 Calls Tryz.prog 150 #[.pointer (some ⟨b,0,none⟩)] w fun e w'=>e = .returned (.tuple #[])/\PenAt B b (.pointer (some ⟨b,0,none⟩)) bs k w'/\Below B w w':=by
 rcases h with h|h
 ·have h':=h
  obtain ⟨hB,v,hb,ho,hne⟩:=h'
  refine (CopyFresh b w (by rw [Lib.cell_of_heap hb];rfl) (by simp [World.shape?,hb]) (Lib.frozen_of_heap hb 0)).mono ?_
  rintro e w' ⟨rfl,rfl⟩
  exact ⟨rfl,h.used _,(Below.refl B w).setCell (p:=⟨b,0,none⟩) hB _⟩
 ·have h':=h
  obtain ⟨hB,v,hb,ho,hne⟩:=h'
  refine (CopyUsed b w (by rw [Lib.cell_of_heap hb];rfl)).mono ?_
  rintro e w' ⟨rfl,rfl⟩
  exact ⟨rfl,h,Below.refl B _⟩
set_option maxHeartbeats 2000000 in
set_option maxRecDepth 100000 in
theorem WriteS_any (B b : Nat) (bs : List UInt8) (k : Int) (s : ByteArray) (w : World) (h : PenBe B b bs k w) (hlen : bs.length + s.size ≤ 140737488355328) (hBw : B ≤ w.heap.size) :
 Calls Tryz.prog 93 #[.pointer (some ⟨b,0,none⟩),.string s] w fun e w'=>e = .returned (.tuple #[.int .i64 s.size,.nilIface])/\PenAt B b (.pointer (some ⟨b,0,none⟩)) (bs++s.data.toList) k w'/\Below B w w':=by
 obtain ⟨i0,hi,hz0,hz1,hz2⟩:=info_parts info_by
 go_enter Tryz.func93,Tryz.ntmps93
 go_wp2_with fail
 refine (Copy_any B b bs k _ h).mono ?_
 rintro e w1 ⟨rfl,h1,hb1⟩
 obtain ⟨hB,v,hbk,hown,hne⟩:=h1
 have c0:w1.cell? ⟨b,0,none⟩=some (.pointer (some ⟨b,0,none⟩)):=by rw [Lib.cell_of_heap hbk];rfl
 have c1:w1.cell? ⟨b,1,none⟩=some v:=by rw [Lib.cell_of_heap hbk];rfl
 go_wp2_with (at_builtin;refine Lib.wpList_append_own_string _ rfl _ _ 24 9 rfl B 5 i0 Tryz.underlying24 Tryz.underlying9 hi hz0 hz1 hz2 _ _ _ rfl hown s rfl ?c3 ?c4 ?c5 ?_)
 case c3=>unfold maxLen;omega
 case c4=>exact hlen
 case c5=>have:=hb1.size;omega
 intro v' w2 hown' hgrow _
 have hlt:b<w1.heap.size:=(Array.getElem?_eq_some_iff.1 hbk).1
 have hb2:w2.heap[b]?=some (.cells #[.pointer (some ⟨b,0,none⟩),v,.int .i64 k] 129 (0,0)):=by
  rw [hgrow.block b hlt (fun e=>hne e.symm)]
  exact hbk
 have d0:w2.cell? ⟨b,0,none⟩=some (.pointer (some ⟨b,0,none⟩)):=by rw [Lib.cell_of_heap hb2];rfl
 have d1:w2.cell? ⟨b,1,none⟩=some v:=by rw [Lib.cell_of_heap hb2];rfl
 have f1:w2.frozen? ⟨b,1,none⟩=false:=Lib.frozen_of_heap hb2 1
 have ho2:OwnBs 5 w2 B v' (bs++s.data.toList):=by
  have:=hown'
  rw [strCells_bytes] at this
  unfold OwnBs
  rw [List.length_append,List.map_append]
  simpa using this
 obtain ⟨ao,n',cap,rfl⟩:∃ ao n' cap,v' = .slice ao n' cap:=by
  rcases hown'.2 with ⟨hv,_⟩|⟨g,cap,cur,hv,_⟩
  ·exact ⟨_,_,_,hv⟩
  ·exact ⟨_,_,_,hv⟩
 go_wp2
 go_ret2
 refine ⟨rfl,?_,?_⟩
 ·exact PenIs.buf hB hb2 ho2 (by decide)
 ·exact (hb1.grown hgrow (by have:=hb1.size;omega) (fun k hk=>(World.ownsRow.lt hown k hk).1)).setCell (p:=⟨b,1,none⟩) hB _
def PenB (B b : Nat) (p : Pen) (w : World) : Prop := PenBe B b p.1.data.toList p.2 w
theorem PenB.below {B b : Nat} {p : Pen} {w w' : World} (h : PenB B b p w) (hb : Below w.heap.size w w') : PenB B b p w' := h.elim (fun h => .inl (h.below hb)) (fun h => .inr (h.below hb))
theorem PenB.lt {B b : Nat} {p : Pen} {w : World} (h : PenB B b p w) : b < w.heap.size := h.elim (fun h => h.lt) (fun h => h.lt)
theorem PenB.new (w : World) : PenB w.heap.size w.heap.size (ByteArray.empty,0) (w.alloc (.cells #[.pointer none,.slice none 0 0,.int .i64 0] 129)) := .inl (PenIs.new _ _ w)
theorem PenB.err {B b : Nat} {p : Pen} {w : World} (h : PenB B b p w) : w.cell? ⟨b,2,none⟩ = some (.int .i64 p.2) ∧ w.frozen? ⟨b,2,none⟩ = false ∧ B ≤ b := by
 rcases h with ⟨hB,v,hb,_⟩|⟨hB,v,hb,_⟩
 ·exact ⟨by rw [Lib.cell_of_heap hb];rfl,Lib.frozen_of_heap hb 2,hB⟩
 ·exact ⟨by rw [Lib.cell_of_heap hb];rfl,Lib.frozen_of_heap hb 2,hB⟩
set_option maxHeartbeats 2000000 in
set_option maxRecDepth 100000 in
theorem Put_any (B b : Nat) (p : Pen) (s : ByteArray) (e : Int) (w : World) (h : PenB B b p w) (hlen : p.1.size + s.size ≤ 1000000) (hBw : B ≤ w.heap.size) :
 Calls Tryz.prog 95 #[.pointer (some ⟨b,0,none⟩),.string s,.int .i64 e] w fun x w'=>x = .returned (.tuple #[])/\PenB B b (penPut p (s,e)) w'/\Below B w w':=by
 obtain ⟨c2,f2,hB⟩:=h.err
 have hpl:p.1.data.toList.length=p.1.size:=by simp
 by_cases h0:p.2=0
 ·have HP:=Lib.hid (penPut_ok (x:=(s,e)) h0)
  rw [h0] at c2
  have hw2:PenBe B b p.1.data.toList e (w.setCell ⟨b,2,none⟩ (.int .i64 e)):=h.elim (fun h => .inl (h.wrong e)) (fun h => .inr (h.wrong e))
  have HW:=Lib.hid (WriteS_any B b p.1.data.toList e s _ hw2 (by rw [hpl];omega) (by simpa using hBw))
  have HB0:=Lib.hid ((Below.refl B w).setCell (p:=⟨b,2,none⟩) hB (.int .i64 e))
  clear h hw2
  go_enter Tryz.func95,Tryz.ntmps95
  go_wp2_with fail
  refine HW.out.mono ?_
  rintro x w1 ⟨rfl,h1,hb⟩
  have HB:=Lib.hid (HB0.out.trans hb)
  have HQ:=Lib.hid h1
  clear hb h1
  go_wp2
  go_end0
  refine ⟨rfl,?_,HB.out⟩
  rw [HP.out]
  refine .inr ?_
  have:=HQ.out
  rw [show (p.1++s).data.toList=p.1.data.toList++s.data.toList by simp]
  exact this
 ·have HP:=Lib.hid (penPut_bad (x:=(s,e)) h0)
  have hne:(p.2==0)=false:=by rw [beq_eq_false_iff_ne];exact h0
  have H:=Lib.hid h
  clear h h0
  go_enter Tryz.func95,Tryz.ntmps95
  go_wp2
  go_end0
  exact ⟨rfl,by rw [HP.out];exact H.out,Below.refl _ _⟩
set_option maxHeartbeats 2000000 in
set_option maxRecDepth 100000 in
theorem PenString_any (B b : Nat) (p : Pen) (w : World) (h : PenB B b p w) (h0 : p.1.size ≠ 0) (hlen : p.1.size ≤ 1000000) :
 Calls Tryz.prog 94 #[.pointer (some ⟨b,0,none⟩)] w fun x w'=>x = .returned (.string p.1)/\Below B w w':=by
 obtain ⟨q,hB,v,hbk,hown,hne⟩:∃ q,PenAt B b q p.1.data.toList p.2 w:=by
  rcases h with h|h
  ·exact ⟨_,h⟩
  ·exact ⟨_,h⟩
 have hs:p.1.data.toList.length=p.1.size:=by simp
 have he:(⟨p.1.data.toList.toArray⟩:ByteArray)=p.1:=ofL_of p.1
 generalize hl:p.1.data.toList=l at *
 generalize p.1=s at *
 have hl0:l.length≠0:=by omega
 have hln:l≠[]:=fun e=>hl0 (by rw [e];rfl)
 obtain ⟨g,cap,cur,rfl,hbg,hg,hnc,hcm,hcs,htake⟩:∃ g cap cur,v = .slice (some ⟨g,0,none⟩) l.length cap/\B<=g/\w.heap[g]?=some (.cells cur 5 (0,0))/\l.length<=cap/\cap<=maxLen/\cur.size=cap*1/\cur.toList.take (l.length*1)=l.map byteV:=by
  rcases hown.2 with ⟨_,hz⟩|⟨g,cap,cur,hv,r⟩
  ·exact absurd hz hl0
  ·exact ⟨g,cap,cur,hv,r⟩
 have c1:w.drew.cell? ⟨b,1,none⟩=some (.slice (some ⟨g,0,none⟩) l.length cap):=by
  have:w.drew.heap[b]?=some (.cells #[q,.slice (some ⟨g,0,none⟩) l.length cap,.int .i64 p.2] 129 (0,0)):=hbk
  rw [Lib.cell_of_heap this];rfl
 have hSD:(Builtin.unsafeSliceData_ #[24] 171 #[.slice (some ⟨g,0,none⟩) l.length cap]).run Tryz.prog w.drew = .ok (.pointer (some ⟨g,0,none⟩)) w.drew :=
  Lib.run_unsafeSliceData_row _ _ _ _ _ _ (by omega)
 have hUS:(Builtin.unsafeString_ #[171,3] 9 #[.pointer (some ⟨g,0,none⟩),.int .i64 l.length]).run Tryz.prog w.drew = .ok (.string ⟨l.toArray⟩) (w.drew.freeze ⟨g,0,none⟩ l.length):=by
  refine Lib.run_unsafeString_row w.drew 171 3 9 5 Tryz.underlying171 cells_by g cur.size (by have hg':w.drew.heap[g]?=some (.cells cur 5 (0,0)):=hg;simp [World.shape?,hg']) l hln (by omega) (by unfold maxLen at hcm;omega) ?_
  intro j x hx
  exact World.ownsRow.cells hown (g:=g) rfl j (.int .u8 x.toNat) (by simp [hx,byteV])
 rw [he] at hUS
 have HBF:=Lib.hid (Lib.below_freeze (Below.drew (Below.refl B w)) (p:=⟨g,0,none⟩) hbg l.length)
 clear hown hne hbk hg htake hl he h hs
 go_enter Tryz.func94,Tryz.ntmps94
 go_wp2
 go_region
 all_goals (go_wp2;go_ret;exact ⟨rfl,HBF.out⟩)
end Go.Proofs.YtaffgndickdbiaaGreatDoor
namespace Go.Creel
open Go.RowKit
theorem headText_typ {n : HeadN} (h : hasB headTypes n.typ = false) : headText n = (ByteArray.empty,2) := if_pos h
theorem headText_bad {n : HeadN} (h : hasB headTypes n.typ = true) (hr : ¬ (headRef n).2 = 0) : headText n = (ByteArray.empty,(headRef n).2) := by
 unfold headText
 rw [if_neg (by rw [h];simp),if_pos hr]
theorem headText_ok {n : HeadN} (h : hasB headTypes n.typ = true) (hr : (headRef n).2 = 0) : headText n = (sumIn (headRef n).1,0) := by
 unfold headText
 rw [if_neg (by rw [h];simp),if_neg (by simpa using hr)]
end Go.Creel
namespace Go.Proofs.YtaffgndickdbiaaGreatDoor
open Go.Creel Go.RowKit
theorem one_conv (w : World) (c : UInt8) : (convert 24 9 (.slice (some ⟨w.heap.size,0,none⟩) 1 1)).run Tryz.prog (w.alloc (.cells #[.int .u8 c.toNat] 5)) = .ok (.string (ofL [c])) (w.alloc (.cells #[.int .u8 c.toNat] 5)) := by
 have h:=World.ownsRow_lit (base:=w.heap.size) (e:=5) (size:=1) w #[.int .u8 c.toNat] 1 (Nat.le_refl _) (by decide) (by simp)
 exact OwnB.string (l:=[c]) (t:=5) (B:=w.heap.size) (cap:=1) h _ _ _ Tryz.underlying24 Tryz.underlying5 Tryz.underlying9
set_option maxRecDepth 100000 in
set_option maxHeartbeats 8000000 in
theorem HeadWrite_any (n : HeadN) (w : World) (hok : n.Ok maxLen) :
 Calls Tryz.prog 39 #[HeadN.val' n] w fun e w'=>e = .returned (.tuple #[.string (headText n).1,.int .i64 (headText n).2])/\Below w.heap.size w w':=by
 have HOK:=Lib.hid hok
 clear hok
 have hix:decide (0<=firstIdx ⟨#[48,49,50,53,120]⟩ n.typ)=hasB headTypes n.typ:=idx_has headTypes n.typ
 have hbx:=(Below.refl w.heap.size w).alloc (Nat.le_refl _) (headBox n 62)
 have HBX:=Lib.hid hbx
 cases hh:hasB headTypes n.typ with
 | false =>
   have HF:=Lib.hid (headText_typ hh)
   have hneg:firstIdx ⟨#[48,49,50,53,120]⟩ n.typ<0:=by have:=idx_none hh;show firstIdx headTypes n.typ<0;omega
   clear hh hbx hix
   go_enter Tryz.func39,Tryz.ntmps39
   go_wp2_with (go_at_call 84;refine (IndexByte_any _ _ _).mono ?_;rintro e w' ⟨rfl,rfl⟩)
   go_ret2
   exact ⟨ret_si HF.out,HBX.out⟩
 | true =>
   rw [hh] at hix
   have hnn:=of_decide_eq_true hix
   have hneg:¬ firstIdx ⟨#[48,49,50,53,120]⟩ n.typ<0:=by omega
   have HH:=Lib.hid hh
   clear hh hix
   have HA0:=Lib.hid ((headAt_box w n 62).below ((Below.refl _ _).alloc (Nat.le_refl _) (.cells #[.pointer none,.slice none 0 0,.int .i64 0] 129)) (by simp))
   have HB0:=Lib.hid (hbx.alloc hbx.size (.cells #[.pointer none,.slice none 0 0,.int .i64 0] 129))
   have hp0:=PenB.new (w.alloc (headBox n 62))
   rw [show (w.alloc (headBox n 62)).heap.size=w.heap.size+1 by simp] at hp0
   have HP0:=Lib.hid hp0
   have HLT:=Lib.hid (Nat.le_succ w.heap.size)
   have HLU:=Lib.hid (Nat.lt_succ_self w.heap.size)
   clear hbx hp0
   have i0:∀ w,(Instr.index 132 (.agg #[.int .i64 n.mode,.int .i64 n.uid,.int .i64 n.gid]) (.int .i64 0)).run Tryz.prog w = .ok (.int .i64 n.mode) w:=fun _=>by kernel_rfl
   have i1:∀ w,(Instr.index 132 (.agg #[.int .i64 n.mode,.int .i64 n.uid,.int .i64 n.gid]) (.int .i64 1)).run Tryz.prog w = .ok (.int .i64 n.uid) w:=fun _=>by kernel_rfl
   have i2:∀ w,(Instr.index 132 (.agg #[.int .i64 n.mode,.int .i64 n.uid,.int .i64 n.gid]) (.int .i64 2)).run Tryz.prog w = .ok (.int .i64 n.gid) w:=fun _=>by kernel_rfl
   have i3:∀ w,(Instr.index 133 (.agg #[.int .i64 n.size,.int .i64 n.time]) (.int .i64 0)).run Tryz.prog w = .ok (.int .i64 n.size) w:=fun _=>by kernel_rfl
   have i4:∀ w,(Instr.index 133 (.agg #[.int .i64 n.size,.int .i64 n.time]) (.int .i64 1)).run Tryz.prog w = .ok (.int .i64 n.time) w:=fun _=>by kernel_rfl
   have hcv:=one_conv
   go_enter Tryz.func39,Tryz.ntmps39
   go_upto_region 4 with (go_at_call 84;refine (IndexByte_any _ _ _).mono ?_;rintro e w' ⟨rfl,rfl⟩)
   generalize World.alloc (World.alloc w _) _=w0 at *
   simp only [Nat.succ_eq_add_one] at HLT HLU
   generalize w.heap.size+1=B at *
   generalize hp:((ByteArray.empty,0):Pen)=p0 at *
   have HPQ0:=Lib.hid hp
   have HS0:=Lib.hid (show p0.1.size<=0 by rw [<-hp];exact Nat.le_refl _)
   clear hp hnn hneg
   clear HBX
   obtain ⟨h0,h1,h2,h3,h4,h5,h6,h7,h8,h9,h10⟩:=HA0.out
   go_wp2_with fail
   refine (FieldWrite_any n.nm 100 true _ HOK.out.nm (by unfold i64;omega)).mono ?_
   rintro e wm ⟨rfl,hb⟩
   have hxs:=fieldText_le n.nm 100 true
   generalize hx:fieldText n.nm 100 true=x1 at *
   have HX1:=Lib.hid hx
   clear hx
   have HAm:=Lib.hid (HA0.out.below hb HA0.out.lt)
   have HPm:=Lib.hid (HP0.out.below hb)
   have HBm:=Lib.hid (HB0.out.trans (hb.mono HB0.out.size))
   clear hb
   clear h0 h1 h2 h3 h4 h5 h6 h7 h8 h9 h10
   go_wp2_with fail
   refine (Put_any B B p0 x1.1 x1.2 _ HPm.out (by have:=HS0.out;omega) (Nat.le_of_lt HPm.out.lt)).mono ?_
   rintro e w1 ⟨rfl,hq,hb⟩
   have HB1:=Lib.hid (HBm.out.trans (hb.mono HLT.out))
   have HA1:=Lib.hid (HAm.out.below hb HLU.out)
   have HS1:=Lib.hid (show (penPut p0 (x1.1,x1.2)).1.size<=512 from penPut_le HS0.out hxs)
   have HP1:=Lib.hid hq
   clear hq hb hxs HAm HPm HBm
   generalize hp:penPut p0 (x1.1,x1.2)=p1 at *
   have HPQ1:=Lib.hid hp
   clear hp
   obtain ⟨h0,h1,h2,h3,h4,h5,h6,h7,h8,h9,h10⟩:=HA1.out
   go_wp2
   clear h0 h1 h2 h3 h4 h5 h6 h7 h8 h9 h10
   refine wp_loop_rounds 4 ?_
   rw [rounds_succ]
   go_wp2_with fail
   refine (OctWrite_any n.mode 8 _).mono ?_
   rintro e wm ⟨rfl,hb⟩
   have hxs:=octText_le n.mode 8
   generalize hx:octText n.mode 8=x2 at *
   have HX2:=Lib.hid hx
   clear hx
   have HAm:=Lib.hid (HA1.out.below hb HA1.out.lt)
   have HPm:=Lib.hid (HP1.out.below hb)
   have HBm:=Lib.hid (HB1.out.trans (hb.mono HB1.out.size))
   clear hb
   go_wp2_with fail
   refine (Put_any B B p1 x2.1 x2.2 _ HPm.out (by have:=HS1.out;omega) (Nat.le_of_lt HPm.out.lt)).mono ?_
   rintro e w2 ⟨rfl,hq,hb⟩
   have HB2:=Lib.hid (HBm.out.trans (hb.mono HLT.out))
   have HA2:=Lib.hid (HAm.out.below hb HLU.out)
   have HS2:=Lib.hid (show (penPut p1 (x2.1,x2.2)).1.size<=1024 from penPut_le HS1.out hxs)
   have HP2:=Lib.hid hq
   clear hq hb hxs HAm HPm HBm
   generalize hp:penPut p1 (x2.1,x2.2)=p2 at *
   have HPQ2:=Lib.hid hp
   clear hp
   go_wp2
   rw [rounds_succ]
   go_wp2_with fail
   refine (OctWrite_any n.uid 8 _).mono ?_
   rintro e wm ⟨rfl,hb⟩
   have hxs:=octText_le n.uid 8
   generalize hx:octText n.uid 8=x3 at *
   have HX3:=Lib.hid hx
   clear hx
   have HAm:=Lib.hid (HA2.out.below hb HA2.out.lt)
   have HPm:=Lib.hid (HP2.out.below hb)
   have HBm:=Lib.hid (HB2.out.trans (hb.mono HB2.out.size))
   clear hb
   go_wp2_with fail
   refine (Put_any B B p2 x3.1 x3.2 _ HPm.out (by have:=HS2.out;omega) (Nat.le_of_lt HPm.out.lt)).mono ?_
   rintro e w3 ⟨rfl,hq,hb⟩
   have HB3:=Lib.hid (HBm.out.trans (hb.mono HLT.out))
   have HA3:=Lib.hid (HAm.out.below hb HLU.out)
   have HS3:=Lib.hid (show (penPut p2 (x3.1,x3.2)).1.size<=1536 from penPut_le HS2.out hxs)
   have HP3:=Lib.hid hq
   clear hq hb hxs HAm HPm HBm
   generalize hp:penPut p2 (x3.1,x3.2)=p3 at *
   have HPQ3:=Lib.hid hp
   clear hp
   go_wp2
   rw [rounds_succ]
   go_wp2_with fail
   refine (OctWrite_any n.gid 8 _).mono ?_
   rintro e wm ⟨rfl,hb⟩
   have hxs:=octText_le n.gid 8
   generalize hx:octText n.gid 8=x4 at *
   have HX4:=Lib.hid hx
   clear hx
   have HAm:=Lib.hid (HA3.out.below hb HA3.out.lt)
   have HPm:=Lib.hid (HP3.out.below hb)
   have HBm:=Lib.hid (HB3.out.trans (hb.mono HB3.out.size))
   clear hb
   go_wp2_with fail
   refine (Put_any B B p3 x4.1 x4.2 _ HPm.out (by have:=HS3.out;omega) (Nat.le_of_lt HPm.out.lt)).mono ?_
   rintro e w4 ⟨rfl,hq,hb⟩
   have HB4:=Lib.hid (HBm.out.trans (hb.mono HLT.out))
   have HA4:=Lib.hid (HAm.out.below hb HLU.out)
   have HS4:=Lib.hid (show (penPut p3 (x4.1,x4.2)).1.size<=2048 from penPut_le HS3.out hxs)
   have HP4:=Lib.hid hq
   clear hq hb hxs HAm HPm HBm
   generalize hp:penPut p3 (x4.1,x4.2)=p4 at *
   have HPQ4:=Lib.hid hp
   clear hp
   go_wp2
   rw [rounds_succ]
   obtain ⟨h0,h1,h2,h3,h4,h5,h6,h7,h8,h9,h10⟩:=HA4.out
   go_wp2
   clear h0 h1 h2 h3 h4 h5 h6 h7 h8 h9 h10
   refine wp_loop_rounds 3 ?_
   rw [rounds_succ]
   go_wp2_with fail
   refine (OctWrite_any n.size 12 _).mono ?_
   rintro e wm ⟨rfl,hb⟩
   have hxs:=octText_le n.size 12
   generalize hx:octText n.size 12=x5 at *
   have HX5:=Lib.hid hx
   clear hx
   have HAm:=Lib.hid (HA4.out.below hb HA4.out.lt)
   have HPm:=Lib.hid (HP4.out.below hb)
   have HBm:=Lib.hid (HB4.out.trans (hb.mono HB4.out.size))
   clear hb
   go_wp2_with fail
   refine (Put_any B B p4 x5.1 x5.2 _ HPm.out (by have:=HS4.out;omega) (Nat.le_of_lt HPm.out.lt)).mono ?_
   rintro e w5 ⟨rfl,hq,hb⟩
   have HB5:=Lib.hid (HBm.out.trans (hb.mono HLT.out))
   have HA5:=Lib.hid (HAm.out.below hb HLU.out)
   have HS5:=Lib.hid (show (penPut p4 (x5.1,x5.2)).1.size<=2560 from penPut_le HS4.out hxs)
   have HP5:=Lib.hid hq
   clear hq hb hxs HAm HPm HBm
   generalize hp:penPut p4 (x5.1,x5.2)=p5 at *
   have HPQ5:=Lib.hid hp
   clear hp
   go_wp2
   rw [rounds_succ]
   go_wp2_with fail
   refine (OctWrite_any n.time 12 _).mono ?_
   rintro e wm ⟨rfl,hb⟩
   have hxs:=octText_le n.time 12
   generalize hx:octText n.time 12=x6 at *
   have HX6:=Lib.hid hx
   clear hx
   have HAm:=Lib.hid (HA5.out.below hb HA5.out.lt)
   have HPm:=Lib.hid (HP5.out.below hb)
   have HBm:=Lib.hid (HB5.out.trans (hb.mono HB5.out.size))
   clear hb
   go_wp2_with fail
   refine (Put_any B B p5 x6.1 x6.2 _ HPm.out (by have:=HS5.out;omega) (Nat.le_of_lt HPm.out.lt)).mono ?_
   rintro e w6 ⟨rfl,hq,hb⟩
   have HB6:=Lib.hid (HBm.out.trans (hb.mono HLT.out))
   have HA6:=Lib.hid (HAm.out.below hb HLU.out)
   have HS6:=Lib.hid (show (penPut p5 (x6.1,x6.2)).1.size<=3072 from penPut_le HS5.out hxs)
   have HP6:=Lib.hid hq
   clear hq hb hxs HAm HPm HBm
   generalize hp:penPut p5 (x6.1,x6.2)=p6 at *
   have HPQ6:=Lib.hid hp
   clear hp
   go_wp2
   rw [rounds_succ]
   obtain ⟨h0,h1,h2,h3,h4,h5,h6,h7,h8,h9,h10⟩:=HA6.out
   have hb:=(Below.refl w6.heap.size w6).alloc (Nat.le_refl _) (.cells #[.int .u8 n.typ.toNat] 5)
   have HAm:=Lib.hid (HA6.out.below hb HA6.out.lt)
   have HPm:=Lib.hid (HP6.out.below hb)
   have HBm:=Lib.hid (HB6.out.trans (hb.mono HB6.out.size))
   clear hb
   have hxs:((⟨#[32,32,32,32,32,32,32,32]⟩:ByteArray)++ofL [n.typ]).size<=512:=by rw [ByteArray.size_append,ofL_size];exact (by decide:8+1<=512)
   have hz1:(ofL [n.typ]).size=1:=ofL_size _
   go_wp2_with fail
   clear h0 h1 h2 h3 h4 h5 h6 h7 h8 h9 h10
   refine (Put_any B B p6 ((⟨#[32,32,32,32,32,32,32,32]⟩:ByteArray)++ofL [n.typ]) 0 _ HPm.out (by have:=HS6.out;omega) (Nat.le_of_lt HPm.out.lt)).mono ?_
   rintro e w7 ⟨rfl,hq,hb⟩
   have HB7:=Lib.hid (HBm.out.trans (hb.mono HLT.out))
   have HA7:=Lib.hid (HAm.out.below hb HLU.out)
   have HS7:=Lib.hid (show (penPut p6 (((⟨#[32,32,32,32,32,32,32,32]⟩:ByteArray)++ofL [n.typ]),0)).1.size<=3584 from penPut_le HS6.out hxs)
   have HP7:=Lib.hid hq
   clear hq hb hxs HAm HPm HBm
   generalize hp:penPut p6 (((⟨#[32,32,32,32,32,32,32,32]⟩:ByteArray)++ofL [n.typ]),0)=p7 at *
   have HPQ7:=Lib.hid hp
   clear hp
   obtain ⟨h0,h1,h2,h3,h4,h5,h6,h7,h8,h9,h10⟩:=HA7.out
   go_wp2_with fail
   refine (FieldWrite_any n.lk 100 true _ HOK.out.lk (by unfold i64;omega)).mono ?_
   rintro e wm ⟨rfl,hb⟩
   have hxs:=fieldText_le n.lk 100 true
   generalize hx:fieldText n.lk 100 true=x8 at *
   have HX8:=Lib.hid hx
   clear hx
   have HAm:=Lib.hid (HA7.out.below hb HA7.out.lt)
   have HPm:=Lib.hid (HP7.out.below hb)
   have HBm:=Lib.hid (HB7.out.trans (hb.mono HB7.out.size))
   clear hb
   clear h0 h1 h2 h3 h4 h5 h6 h7 h8 h9 h10
   go_wp2_with fail
   refine (Put_any B B p7 x8.1 x8.2 _ HPm.out (by have:=HS7.out;omega) (Nat.le_of_lt HPm.out.lt)).mono ?_
   rintro e w8 ⟨rfl,hq,hb⟩
   have HB8:=Lib.hid (HBm.out.trans (hb.mono HLT.out))
   have HA8:=Lib.hid (HAm.out.below hb HLU.out)
   have HS8:=Lib.hid (show (penPut p7 (x8.1,x8.2)).1.size<=4096 from penPut_le HS7.out hxs)
   have HP8:=Lib.hid hq
   clear hq hb hxs HAm HPm HBm
   generalize hp:penPut p7 (x8.1,x8.2)=p8 at *
   have HPQ8:=Lib.hid hp
   clear hp
   have HAm:=HA8
   have HPm:=HP8
   have HBm:=HB8
   have hxs:((⟨#[117,115,116,97,114,0,48,48]⟩:ByteArray)).size<=512:=by decide
   go_wp2_with fail
   refine (Put_any B B p8 (⟨#[117,115,116,97,114,0,48,48]⟩:ByteArray) 0 _ HPm.out (by have:=HS8.out;omega) (Nat.le_of_lt HPm.out.lt)).mono ?_
   rintro e w9 ⟨rfl,hq,hb⟩
   have HB9:=Lib.hid (HBm.out.trans (hb.mono HLT.out))
   have HA9:=Lib.hid (HAm.out.below hb HLU.out)
   have HS9:=Lib.hid (show (penPut p8 ((⟨#[117,115,116,97,114,0,48,48]⟩:ByteArray),0)).1.size<=4608 from penPut_le HS8.out hxs)
   have HP9:=Lib.hid hq
   clear hq hb hxs HAm HPm HBm
   generalize hp:penPut p8 ((⟨#[117,115,116,97,114,0,48,48]⟩:ByteArray),0)=p9 at *
   have HPQ9:=Lib.hid hp
   clear hp
   obtain ⟨h0,h1,h2,h3,h4,h5,h6,h7,h8,h9,h10⟩:=HA9.out
   go_wp2_with fail
   refine (FieldWrite_any n.user 32 false _ HOK.out.user (by unfold i64;omega)).mono ?_
   rintro e wm ⟨rfl,hb⟩
   have hxs:=fieldText_le n.user 32 false
   generalize hx:fieldText n.user 32 false=x10 at *
   have HX10:=Lib.hid hx
   clear hx
   have HAm:=Lib.hid (HA9.out.below hb HA9.out.lt)
   have HPm:=Lib.hid (HP9.out.below hb)
   have HBm:=Lib.hid (HB9.out.trans (hb.mono HB9.out.size))
   clear hb
   clear h0 h1 h2 h3 h4 h5 h6 h7 h8 h9 h10
   go_wp2_with fail
   refine (Put_any B B p9 x10.1 x10.2 _ HPm.out (by have:=HS9.out;omega) (Nat.le_of_lt HPm.out.lt)).mono ?_
   rintro e w10 ⟨rfl,hq,hb⟩
   have HB10:=Lib.hid (HBm.out.trans (hb.mono HLT.out))
   have HA10:=Lib.hid (HAm.out.below hb HLU.out)
   have HS10:=Lib.hid (show (penPut p9 (x10.1,x10.2)).1.size<=5120 from penPut_le HS9.out hxs)
   have HP10:=Lib.hid hq
   clear hq hb hxs HAm HPm HBm
   generalize hp:penPut p9 (x10.1,x10.2)=p10 at *
   have HPQ10:=Lib.hid hp
   clear hp
   obtain ⟨h0,h1,h2,h3,h4,h5,h6,h7,h8,h9,h10⟩:=HA10.out
   go_wp2_with fail
   refine (FieldWrite_any n.group 32 false _ HOK.out.group (by unfold i64;omega)).mono ?_
   rintro e wm ⟨rfl,hb⟩
   have hxs:=fieldText_le n.group 32 false
   generalize hx:fieldText n.group 32 false=x11 at *
   have HX11:=Lib.hid hx
   clear hx
   have HAm:=Lib.hid (HA10.out.below hb HA10.out.lt)
   have HPm:=Lib.hid (HP10.out.below hb)
   have HBm:=Lib.hid (HB10.out.trans (hb.mono HB10.out.size))
   clear hb
   clear h0 h1 h2 h3 h4 h5 h6 h7 h8 h9 h10
   go_wp2_with fail
   refine (Put_any B B p10 x11.1 x11.2 _ HPm.out (by have:=HS10.out;omega) (Nat.le_of_lt HPm.out.lt)).mono ?_
   rintro e w11 ⟨rfl,hq,hb⟩
   have HB11:=Lib.hid (HBm.out.trans (hb.mono HLT.out))
   have HA11:=Lib.hid (HAm.out.below hb HLU.out)
   have HS11:=Lib.hid (show (penPut p10 (x11.1,x11.2)).1.size<=5632 from penPut_le HS10.out hxs)
   have HP11:=Lib.hid hq
   clear hq hb hxs HAm HPm HBm
   generalize hp:penPut p10 (x11.1,x11.2)=p11 at *
   have HPQ11:=Lib.hid hp
   clear hp
   have HAm:=HA11
   have HPm:=HP11
   have HBm:=HB11
   have hxs:((⟨#[48,48,48,48,48,48,48,0,48,48,48,48,48,48,48,0]⟩:ByteArray)).size<=512:=by decide
   go_wp2_with fail
   refine (Put_any B B p11 (⟨#[48,48,48,48,48,48,48,0,48,48,48,48,48,48,48,0]⟩:ByteArray) 0 _ HPm.out (by have:=HS11.out;omega) (Nat.le_of_lt HPm.out.lt)).mono ?_
   rintro e w12 ⟨rfl,hq,hb⟩
   have HB12:=Lib.hid (HBm.out.trans (hb.mono HLT.out))
   have HA12:=Lib.hid (HAm.out.below hb HLU.out)
   have HS12:=Lib.hid (show (penPut p11 ((⟨#[48,48,48,48,48,48,48,0,48,48,48,48,48,48,48,0]⟩:ByteArray),0)).1.size<=6144 from penPut_le HS11.out hxs)
   have HP12:=Lib.hid hq
   clear hq hb hxs HAm HPm HBm
   generalize hp:penPut p11 ((⟨#[48,48,48,48,48,48,48,0,48,48,48,48,48,48,48,0]⟩:ByteArray),0)=p12 at *
   have HPQ12:=Lib.hid hp
   clear hp
   obtain ⟨h0,h1,h2,h3,h4,h5,h6,h7,h8,h9,h10⟩:=HA12.out
   go_wp2_with fail
   refine (FieldWrite_any n.px 155 true _ HOK.out.px (by unfold i64;omega)).mono ?_
   rintro e wm ⟨rfl,hb⟩
   have hxs:=fieldText_le n.px 155 true
   generalize hx:fieldText n.px 155 true=x13 at *
   have HX13:=Lib.hid hx
   clear hx
   have HAm:=Lib.hid (HA12.out.below hb HA12.out.lt)
   have HPm:=Lib.hid (HP12.out.below hb)
   have HBm:=Lib.hid (HB12.out.trans (hb.mono HB12.out.size))
   clear hb
   clear h0 h1 h2 h3 h4 h5 h6 h7 h8 h9 h10
   go_wp2_with fail
   refine (Put_any B B p12 x13.1 x13.2 _ HPm.out (by have:=HS12.out;omega) (Nat.le_of_lt HPm.out.lt)).mono ?_
   rintro e w13 ⟨rfl,hq,hb⟩
   have HB13:=Lib.hid (HBm.out.trans (hb.mono HLT.out))
   have HA13:=Lib.hid (HAm.out.below hb HLU.out)
   have HS13:=Lib.hid (show (penPut p12 (x13.1,x13.2)).1.size<=6656 from penPut_le HS12.out hxs)
   have HP13:=Lib.hid hq
   clear hq hb hxs HAm HPm HBm
   generalize hp:penPut p12 (x13.1,x13.2)=p13 at *
   have HPQ13:=Lib.hid hp
   clear hp
   go_wp2_with fail
   refine (Repeat0_any 12 _ (by omega) (by omega)).mono ?_
   rintro e wm ⟨rfl,hb⟩
   have hxs:(zerosS (12:Int).toNat).size<=512:=by rw [zerosS_size];decide
   generalize hx:zerosS (12:Int).toNat=x14 at *
   have HX14:=Lib.hid hx
   clear hx
   have HAm:=Lib.hid (HA13.out.below hb HA13.out.lt)
   have HPm:=Lib.hid (HP13.out.below hb)
   have HBm:=Lib.hid (HB13.out.trans (hb.mono HB13.out.size))
   clear hb
   go_wp2_with fail
   refine (Put_any B B p13 x14 0 _ HPm.out (by have:=HS13.out;omega) (Nat.le_of_lt HPm.out.lt)).mono ?_
   rintro e w14 ⟨rfl,hq,hb⟩
   have HB14:=Lib.hid (HBm.out.trans (hb.mono HLT.out))
   have HA14:=Lib.hid (HAm.out.below hb HLU.out)
   have HS14:=Lib.hid (show (penPut p13 (x14,0)).1.size<=7168 from penPut_le HS13.out hxs)
   have HP14:=Lib.hid hq
   clear hq hb hxs HAm HPm HBm
   generalize hp:penPut p13 (x14,0)=p14 at *
   have HPQ14:=Lib.hid hp
   clear hp
   have HPEN:=Lib.hid (show headPen n=p14 by
    unfold headPen penAll pNum pRest pEnd
    simp only [List.foldl_append,List.foldl_cons,List.foldl_nil]
    rw [HX1.out,HX2.out,HX3.out,HX4.out,HX5.out,HX6.out,HX8.out,HX10.out,HX11.out,HX13.out,HPQ0.out]
    rw [show penPut p0 x1=p1 from HPQ1.out,show penPut p1 x2=p2 from HPQ2.out,show penPut p2 x3=p3 from HPQ3.out,show penPut p3 x4=p4 from HPQ4.out,show penPut p4 x5=p5 from HPQ5.out,show penPut p5 x6=p6 from HPQ6.out,show penPut p6 (ofL (eightB++[n.typ]),0)=p7 from by rw [<-ofL_append];exact HPQ7.out,show penPut p7 x8=p8 from HPQ8.out,show penPut p8 (ofL ustarB,0)=p9 from HPQ9.out,show penPut p9 x10=p10 from HPQ10.out,show penPut p10 x11=p11 from HPQ11.out,show penPut p11 (ofL (zero8B++zero8B),0)=p12 from HPQ12.out,show penPut p12 x13=p13 from HPQ13.out,show penPut p13 (zerosS 12,0)=p14 from by rw [show zerosS 12=x14 from HX14.out];exact HPQ14.out])
   have hlike:=head_like n
   rw [HPEN.out] at hlike
   have HL2:=Lib.hid hlike.2
   have hl1:=hlike.1
   have HL1:=Lib.hid hl1
   obtain ⟨c2,_,_⟩:=HP14.out.err
   clear hlike hl1
   by_cases hz:p14.2=0
   ·have HR0:=Lib.hid (HL1.out.symm.trans hz)
    have HF:=Lib.hid (headText_ok HH.out HR0.out)
    have hsz:p14.1.size=512:=by rw [HL2.out hz];exact head_size n HR0.out
    rw [<-HL2.out hz] at HF
    have HST:=Lib.hid (PenString_any B B p14 w14 HP14.out (by omega) (by omega))
    rw [hz] at c2
    clear hz
    generalize p14.1=s at *
    have hbd:=headSum_bd hsz
    go_wp2_with fail
    refine HST.out.mono ?_
    rintro e w15 ⟨rfl,hb⟩
    have HB15:=Lib.hid (HB14.out.trans (hb.mono HLT.out))
    clear hb
    go_wp2_with fail
    refine (Sum_any s _ (by unfold maxLen;omega)).mono ?_
    rintro e w16 ⟨rfl,rfl⟩
    go_wp2_with fail
    refine (OctWrite_any (headSum s).1 7 _).mono ?_
    rintro e w17 ⟨rfl,hb⟩
    have HB17:=Lib.hid (HB15.out.trans (hb.mono HB15.out.size))
    have ho:=octText_le (headSum s).1 7
    have HF2:=Lib.hid (show headText n=(s.extract 0 148++(octText (headSum s).1 7).1++(⟨#[32]⟩:ByteArray)++s.extract 156 512,0) from by have:=HF.out;unfold sumIn at this;rw [hsz] at this;exact this)
    clear hb HF
    generalize octText (headSum s).1 7=y at *
    go_wp2_with fail
    go_quiet (fail)
    go_wp2
    go_ret2
    exact ⟨ret_si HF2.out,below_drawN HB17.out⟩
   ·have HF:=Lib.hid (headText_bad HH.out (by rw [<-HL1.out];exact hz))
    rw [<-HL1.out] at HF
    have hne:(p14.2 != 0)=true:=by rw [bne_iff_ne];exact hz
    clear hz
    generalize p14.2=q at *
    go_wp2_with fail
    go_quiet (fail)
    go_wp2
    go_ret2
    exact ⟨ret_si HF.out,below_drawN HB14.out⟩
end Go.Proofs.YtaffgndickdbiaaGreatDoor
namespace Go.Creel
open Go.RowKit
theorem grown_by_below {w w' : World} {row : Option Nat} (hb : Below w.heap.size w w') : w.grownBy w' row := ⟨hb.os,hb.tape,hb.output,hb.size,fun k hk _ => hb.block k hk⟩
theorem grown_then {w w1 w2 : World} {row : Option Nat} (h1 : w.grownBy w1 row) (h2 : w1.grownBy w2 row) : w.grownBy w2 row := by
 obtain ⟨a1,a2,a3,a4,a5⟩:=h1
 obtain ⟨b1,b2,b3,b4,b5⟩:=h2
 exact ⟨b1.trans a1,b2.trans a2,b3.trans a3,Nat.le_trans a4 b4,fun k hk hne=>(b5 k (Nat.lt_of_lt_of_le hk a4) hne).trans (a5 k hk hne)⟩
structure RecG (tR tP : TypeId) (w0 w : World) (b : Nat) (cs : Array Value) (v : Value) (l : List Rec) : Prop where
 row:w.heap[b]?=some (.cells cs tP (0,0))
 own:OwnRecs tR w w0.heap.size v l
 low:b<w0.heap.size
 gr:w0.grownBy w (some b)
section
variable {tR tP : TypeId} {w0 w w' w4 : World} {b : Nat} {cs : Array Value} {v v4 : Value} {l : List Rec}
theorem RecG.lt (h : RecG tR tP w0 w b cs v l) : b < w.heap.size := (Array.getElem?_eq_some_iff.1 h.row).1
theorem RecG.size (h : RecG tR tP w0 w b cs v l) : w0.heap.size ≤ w.heap.size := by obtain ⟨_,_,_,a4,_⟩ := h.gr; exact a4
theorem RecG.below (h : RecG tR tP w0 w b cs v l) (hb : Below w.heap.size w w') : RecG tR tP w0 w' b cs v l :=
 ⟨(hb.block b h.lt).trans h.row,h.own.below hb,h.low,grown_then h.gr (grown_by_below hb)⟩
theorem RecG.cell (h : RecG tR tP w0 w b cs v l) (j : Nat) : w.cell? ⟨b,j,none⟩ = cs[j]? := cell_of_row w b j cs tP (0,0) h.row
theorem RecG.ne (h : RecG tR tP w0 w b cs v l) : v.ownBlock ≠ some b := fun e => by have := (World.ownsRow.lt h.own b e).1; have := h.low; omega
theorem RecG.row4 (h : RecG tR tP w0 w b cs v l) (hg : w.grownBy w4 v.ownBlock) : w4.heap[b]? = some (.cells cs tP (0,0)) :=
 (by obtain ⟨a1,a2,a3,a4,a5⟩:=hg;exact (a5 b h.lt (fun e=>h.ne e.symm)).trans h.row)
theorem RecG.cell4 (h : RecG tR tP w0 w b cs v l) (hg : w.grownBy w4 v.ownBlock) (j : Nat) : w4.cell? ⟨b,j,none⟩ = cs[j]? := cell_of_row w4 b j cs tP (0,0) (h.row4 hg)
theorem RecG.free4 (h : RecG tR tP w0 w b cs v l) (hg : w.grownBy w4 v.ownBlock) (j : Nat) : w4.frozen? ⟨b,j,none⟩ = false := frozen_of_row w4 b j cs tP (h.row4 hg)
theorem RecG.other (h : RecG tR tP w0 w b cs v l) {k o : Nat} {u : Value} (hc : w0.cell? ⟨k,o,none⟩ = some u) (hne : k ≠ b) : w.cell? ⟨k,o,none⟩ = some u := by
 have hk:=World.block_lt_of_cell? w0 _ hc
 obtain ⟨_,_,_,_,a5⟩:=h.gr
 have e:=a5 k hk (fun e=>hne (Option.some.inj e))
 unfold World.cell? at hc ⊢
 simp only at hc ⊢
 rw [e];exact hc
theorem RecG.say (h : RecG tR tP w0 w b cs v l) (j : Nat) {r : Rec} (ho : w4.ownsRow w0.heap.size tR 2 v4 (l.length + 1) (l.flatMap Rec.cl ++ [r].flatMap Rec.cl)) (hg : w.grownBy w4 v.ownBlock) {cs' : Array Value} (e : cs.setIfInBounds j v4 = cs') :
 RecG tR tP w0 (w4.setCell ⟨b,j,none⟩ v4) b cs' v4 (l++[r]):=by
 subst e
 have own4:OwnRecs tR w4 w0.heap.size v4 (l++[r]):=OwnRecs.app (m:=[r]) ho
 have hne4:v4.ownBlock≠some b:=fun e=>by have:=(World.ownsRow.lt own4 b e).1;have:=h.low;omega
 refine ⟨heap_setCell_same w4 b j _ tP _ (h.row4 hg),ownsRow_elsewhere _ own4 hne4,h.low,?_⟩
 obtain ⟨a1,a2,a3,a4,a5⟩:=h.gr
 obtain ⟨b1,b2,b3,b4,b5⟩:=hg
 refine ⟨b1.trans a1,b2.trans a2,b3.trans a3,by simp only [World.setCell,Array.size_modify];omega,fun k hk hne=>?_⟩
 rw [heap_setCell_other w4 ⟨b,j,none⟩ k v4 (fun e=>hne (by rw [e]))]
 refine (b5 k (by omega) (fun e=>?_)).trans (a5 k hk hne)
 have:=(World.ownsRow.lt h.own k e.symm).1
 omega
theorem RecG.bel {wb : World} (h : RecG tR tP w0 w b cs v l) (hb : Below wb.heap.size wb w0) (hl : wb.heap.size ≤ b) : Below wb.heap.size wb w :=
 hb.grown h.gr hb.size (fun k hk=>by cases hk;exact hl)
end
theorem OwnRecs.mono {t : TypeId} {w : World} {B B' : Nat} {v : Value} {l : List Rec} (h : OwnRecs t w B v l) (hb : B' ≤ B) : OwnRecs t w B' v l := by
 rcases h.2 with ⟨rfl,h0⟩|⟨g,cap,cur,rfl,hbg,hg,hnc,hcm,hcs,htake⟩
 ·exact ⟨h.1,.inl ⟨rfl,h0⟩⟩
 ·exact ⟨h.1,.inr ⟨g,cap,cur,rfl,Nat.le_trans hb hbg,hg,hnc,hcm,hcs,htake⟩⟩
end Go.Creel
