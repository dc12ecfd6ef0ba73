/-
  Texts: Nodes, Append, Pieces.
-/
import Derived.Test.YtaffgndickdbiaaGreatDoorQ01
import Derived.Deep.AppendSrc
import Derived.Lib.AppendZeros
import Derived.Laws.OwnMore
import Derived.Test.YtaffgndickdbiaaGreatDoorQ02
import Derived.Lib.SplitLaws
set_option linter.unusedVariables false
set_option linter.unusedSimpArgs false
set_option linter.unusedSectionVars false
namespace Go.Creel
structure Ent where
 path:ByteArray
 kind:Int
 target:ByteArray
 mt:Meta
 da:Option Addr
 dcap:Nat
 data:List UInt8
def Ent.cells (e : Ent) : List Value := [.string e.path,.int .i64 e.kind,.string e.target,.int .i64 e.mt.mode,.int .i64 e.mt.uid,.int .i64 e.mt.gid,.string e.mt.user,.string e.mt.group,.int .i64 e.mt.second,.int .i64 e.mt.nano,.slice e.da e.data.length e.dcap]
structure Ent.Ok (N : Nat) (w : World) (e : Ent) : Prop where
 path:e.path.size<=N
 kind:i64 e.kind
 target:e.target.size<=N
 mt:e.mt.Ok N
 data:SliceC N 1 ByteC w [.slice e.da e.data.length e.dcap] e.data
def EntC (N : Nat) (w : World) (cs : List Value) (e : Ent) : Prop := cs = e.cells ∧ e.Ok N w
structure Nod where
 path:ByteArray
 kind:Int
 same:Int
 target:ByteArray
 mt:Meta
 da:Option Addr
 dcap:Nat
 data:List UInt8
def Nod.cells (e : Nod) : List Value := [.string e.path,.int .i64 e.kind,.int .i64 e.same,.string e.target,.int .i64 e.mt.mode,.int .i64 e.mt.uid,.int .i64 e.mt.gid,.string e.mt.user,.string e.mt.group,.int .i64 e.mt.second,.int .i64 e.mt.nano,.slice e.da e.data.length e.dcap]
structure Nod.Ok (N : Nat) (w : World) (e : Nod) : Prop where
 path:e.path.size<=N
 kind:i64 e.kind
 same:i64 e.same
 target:e.target.size<=N
 mt:e.mt.Ok N
 data:SliceC N 1 ByteC w [.slice e.da e.data.length e.dcap] e.data
def NodC (N : Nat) (w : World) (cs : List Value) (e : Nod) : Prop := cs = e.cells ∧ e.Ok N w
open Go.RowKit
def AppTo (P : Program) (w : World) (t tx ty : TypeId) (v x : Value) (base e size n m : Nat) (xs news : List Value) : Prop :=
 ∃ v' w',(Builtin.append_ #[t,tx] ty #[v,x]).run P w = .ok v' w'/\w'.ownsRow base e size v' (n+m) (xs++news)/\w.grownBy w' v.ownBlock/\(v' = .slice none 0 0↔v = .slice none 0 0/\m=0)/\(v'.ownBlock=v.ownBlock\/∃ b,v'.ownBlock=some b/\w.heap.size<=b)
theorem setCells_row (g : Nat) {e : TypeId} : ∀ (vs : List Value) (o : Nat) (w : World) (cur : Array Value),w.heap[g]? = some (.cells cur e (0,0)) → o + vs.length ≤ cur.size →
 ∃ cur':Array Value,(w.setCells g o vs).heap[g]?=some (.cells cur' e (0,0))/\cur'.size=cur.size/\cur'.toList.take (o+vs.length)=cur.toList.take o++vs
 | [],o,w,cur,h,_=>⟨cur,h,rfl,by simp⟩
 | v::r,o,w,cur,h,hl=>by
   have h1:=heap_setCell_same w g o cur e v h
   obtain ⟨cur',a1,a2,a3⟩:=setCells_row g r (o+1) (w.setCell ⟨g,o,none⟩ v) _ h1 (by simp at hl ⊢;omega)
   refine ⟨cur',a1,by simpa using a2,?_⟩
   have e1:o+(v::r).length=o+1+r.length:=by simp;omega
   rw [e1,a3]
   have ho:o<cur.toList.length:=by simp at hl ⊢;omega
   rw [Array.toList_setIfInBounds,List.take_succ_eq_append_getElem (by simpa using ho)]
   simp [List.take_set,List.getElem_set]
   exact List.set_eq_of_length_le (by simp;omega)
theorem setCells_other (g : Nat) : ∀ (vs : List Value) (o : Nat) (w : World) (k : Nat),k ≠ g → (w.setCells g o vs).heap[k]? = w.heap[k]?
 | [],_,_,_,_=>rfl
 | v::r,o,w,k,h=>by
   rw [World.setCells,setCells_other g r _ _ k h]
   exact heap_setCell_other w ⟨g,o,none⟩ k v (by simpa using h)
theorem setCells_meta (g : Nat) : ∀ (vs : List Value) (o : Nat) (w : World),(w.setCells g o vs).os = w.os ∧ (w.setCells g o vs).tape = w.tape ∧ (w.setCells g o vs).output = w.output ∧ (w.setCells g o vs).heap.size = w.heap.size
 | [],_,_=>⟨rfl,rfl,rfl,rfl⟩
 | v::r,o,w=>by
   obtain ⟨h1,h2,h3,h4⟩:=setCells_meta g r (o+1) (w.setCell ⟨g,o,none⟩ v)
   exact ⟨h1,h2,h3,by rw [World.setCells,h4];simp⟩
section
variable {P : Program} (w : World)
theorem own_grown (base e size n m old : Nat) (z : Value) (xs news : List Value) (hzs : z.cells.size = size) (hxs : xs.length = n * size) (hl : news.length = m * size) (h63 : n + m ≤ maxLen) (ho : old < n + m) (hbase : base ≤ w.heap.size) (row : Option Nat) :
 (w.drew.alloc (.cells ((xs++news).toArray++Builtin.zeroCells z.cells (grownCap w (n+m) old e-(n+m))) e)).ownsRow base e size
   (.slice (some ⟨w.heap.size,0,none⟩) (n+m) (grownCap w (n+m) old e)) (n+m) (xs++news) ∧
 w.grownBy (w.drew.alloc (.cells ((xs++news).toArray++Builtin.zeroCells z.cells (grownCap w (n+m) old e-(n+m))) e)) row:=by
 have hge:=grownCap_ge w (n+m) old e
 have hcm:grownCap w (n+m) old e<=maxLen:=grownCap_le_maxLen w (n+m) old e h63
 have hlen:(xs++news).length=(n+m)*size:=by rw [List.length_append,hxs,hl,Nat.add_mul]
 refine ⟨⟨hlen,.inr ⟨w.heap.size,_,_,rfl,hbase,heap_alloc_new w.drew _,hge,hcm,?_,?_⟩⟩,⟨rfl,rfl,rfl,by simp,fun k hk _=>heap_alloc_old w.drew _ hk⟩⟩
 ·simp only [Array.size_append,List.size_toArray,size_zeroCells,hzs,hlen,<-Nat.add_mul]
  congr 1
  omega
 ·simp only [Array.toList_append]
  rw [<-hlen]
  exact List.take_left
theorem own_room (base e size n m g cap : Nat) (cur : Array Value) (xs news : List Value) (hxs : xs.length = n * size) (hl : news.length = m * size) (hbg : base ≤ g) (hg : w.heap[g]? = some (.cells cur e (0,0))) (hcm : cap ≤ maxLen) (hcs : cur.size = cap * size)
 (htake:cur.toList.take (n*size)=xs) (hroom:n+m<=cap) :
 (w.setCells g (n*size) news).ownsRow base e size (.slice (some ⟨g,0,none⟩) (n+m) cap) (n+m) (xs++news)/\w.grownBy (w.setCells g (n*size) news) (some g):=by
 have hfit:n*size+news.length<=cur.size:=by rw [hl,hcs,<-Nat.add_mul];exact Nat.mul_le_mul_right _ hroom
 obtain ⟨cur',a1,a2,a3⟩:=setCells_row g news (n*size) w cur hg hfit
 obtain ⟨m1,m2,m3,m4⟩:=setCells_meta g news (n*size) w
 refine ⟨⟨by rw [List.length_append,hxs,hl,Nat.add_mul],.inr ⟨g,cap,cur',rfl,hbg,a1,hroom,hcm,a2.trans hcs,?_⟩⟩,⟨m1,m2,m3,by omega,fun k _ hk=>setCells_other g news _ w k (fun e=>hk (by rw [e]))⟩⟩
 rw [<-htake,<-a3,hl,<-Nat.add_mul]
theorem app_src (t tx ty base e : TypeId) (i : TypeInfo) (z : Value) (size bytes : Nat) (ht : P.underlying t = some (.slice e)) (hi : P.info? e = some i) (hz : i.zero = some z)
 (hsize:i.size=size) (hby:i.bytes=bytes) (hzs:z.cells.size=size) (hsz:0<size)
 (v x:Value) (n m:Nat) (xs news:List Value) (hown:w.ownsRow base e size v n xs) (hs:Src P size tx x m news w)
 (h63:n+m<=maxLen) (hbytes:(n+m)*bytes<=140737488355328) (hbase:base<=w.heap.size):AppTo P w t tx ty v x base e size n m xs news:=by
 subst hsize
 subst hby
 have hsmall:n+m<=9223372036854775807:=by simp only [maxLen] at h63;omega
 rcases hown.2 with ⟨rfl,rfl⟩|⟨g,cap,cur,rfl,hbg,hg,hnc,hcm,hcs,htake⟩
 ·have hx:xs=[]:=List.eq_nil_of_length_eq_zero (by simpa using hown.1)
  subst hx
  by_cases hm:m=0
  ·subst hm
   have hn:news=[]:=List.eq_nil_of_length_eq_zero (by simpa using hs.newsLen)
   subst hn
   refine ⟨.slice none 0 0,w,?_,World.ownsRow_nil w base e i.size,⟨rfl,rfl,rfl,Nat.le_refl _,fun _ _ _=>rfl⟩,⟨by simp,.inl rfl⟩⟩
   rcases hs.kind with ⟨e',hk⟩|hk<;>simp [Builtin.append_,run_underlying ht,run_underlying hk,sizeOf,typeInfo,hi,hs.len,hs.cells]
  ·have hold:(Builtin.firstCells i.size 0 (.slice none 0 0)).run P w.drew = .ok ([]:List Value).toArray w.drew:=run_firstCells_none w.drew i.size 0 0 0
   have hr:=run_append_grow_src (P:=P) w t tx ty e i z ht hi hz none 0 0 [] hold x m news hs (by omega) (by omega) (growslice_fits (by omega) (by simpa using hbytes))
   have hgr:=own_grown w base e i.size 0 m 0 z [] news hzs (by simp) hs.newsLen h63 (by omega) hbase none
   exact ⟨_,_,hr,hgr.1,hgr.2,⟨by simp [hm],.inr ⟨_,rfl,Nat.le_refl _⟩⟩⟩
 ·by_cases hroom:n+m<=cap
  ·have hfit:n*i.size+news.length<=cur.size:=by rw [hs.newsLen,hcs,<-Nat.add_mul];exact Nat.mul_le_mul_right _ hroom
   have hr:=run_append_room_src (P:=P) w t tx ty e i ht hi g 0 n cap x m news hs hroom
    (fun j hj=>by rw [cell_of_row w g _ cur e (0,0) hg,Nat.zero_add,Array.getElem?_eq_getElem (by omega)];rfl) (fun j _=>frozen_of_row w g _ cur e hg)
   rw [Nat.zero_add] at hr
   have ho:=own_room w base e i.size n m g cap cur xs news hown.1 hs.newsLen hbg hg hcm hcs htake hroom
   exact ⟨_,_,hr,ho.1,ho.2,⟨by simp,.inl rfl⟩⟩
  ·have holds:∀ j u,xs[j]?=some u->w.drew.cell? ((⟨g,0,none⟩:Addr).add j)=some u:=fun j u hu=>hown.cells (g:=g) rfl j u hu
   have hold:=run_firstCells_some (P:=P) w.drew i.size n ⟨g,0,none⟩ n cap xs hown.1 holds
   have hr:=run_append_grow_src (P:=P) w t tx ty e i z ht hi hz (some ⟨g,0,none⟩) n cap xs hold x m news hs (by omega) (by omega) (growslice_fits (by omega) hbytes)
   have hgr:=own_grown w base e i.size n m cap z xs news hzs hown.1 hs.newsLen h63 (by omega) hbase (some g)
   exact ⟨_,_,hr,hgr.1,hgr.2,⟨by simp,.inr ⟨_,rfl,Nat.le_refl _⟩⟩⟩
theorem app_zeros (t tn ty base e : TypeId) (i : TypeInfo) (z : Value) (k kn : IntKind) (ht : P.underlying t = some (.slice e)) (htn : P.underlying tn = some (.int kn)) (hi : P.info? e = some i) (hz : i.zero = some z)
 (hsize:i.size=1) (hby:i.bytes=1) (hzs:z.cells = #[z]) (h1:z.oneCell'=true)
 (v:Value) (n m:Nat) (xs:List Value) (hown:w.ownsRow base e 1 v n xs)
 (h63:n+m<=maxLen) (hbytes:n+m<=140737488355328) (hbase:base<=w.heap.size):AppTo P w t tn ty v (.int k m) base e 1 n m xs (List.replicate m z):=by
 have hw:IntKind.i64.wrap (m:Int)=m:=by rw [IntKind.wrap_i64];omega
 have hneg:¬ ((m:Int)<0):=by omega
 have h48i:¬ (281474976710656<(m:Int)):=by omega
 have hzc:Builtin.zeroCells #[z] m=(List.replicate m z).toArray:=by
  apply Array.ext'
  apply List.ext_getElem?
  intro j
  by_cases hj:j<m
  ·simp [Builtin.zeroCells,hj,Nat.mod_one]
  ·simp [Builtin.zeroCells,hj]
 have hw0:IntKind.i64.wrap 0=0:=by rw [IntKind.wrap_i64];rfl
 by_cases hm:m=0
 ·subst hm
  rcases hown.2 with ⟨rfl,rfl⟩|⟨g,cap,cur,rfl,hbg,hg,hnc,hcm,hcs,htake⟩
  ·refine ⟨.slice none 0 0,w,?_,by simpa using hown,⟨rfl,rfl,rfl,Nat.le_refl _,fun _ _ _=>rfl⟩,⟨by simp,.inl rfl⟩⟩
   simp [Builtin.append_,run_underlying ht,run_underlying htn,sizeOf,typeInfo,hi,asInt,asIntOf,hsize,hby,hw0]
  ·refine ⟨.slice (some ⟨g,0,none⟩) n cap,w,?_,by simpa using hown,⟨rfl,rfl,rfl,Nat.le_refl _,fun _ _ _=>rfl⟩,⟨by simp,.inl rfl⟩⟩
   simp [Builtin.append_,run_underlying ht,run_underlying htn,sizeOf,typeInfo,hi,asInt,asIntOf,hsize,hby,hnc,hw0,storeCells]
 ·rcases hown.2 with ⟨rfl,rfl⟩|⟨g,cap,cur,rfl,hbg,hg,hnc,hcm,hcs,htake⟩
  ·have hx:xs=[]:=List.eq_nil_of_length_eq_zero (by simpa using hown.1)
   subst hx
   have hr:=Lib.run_append_nil_zeros (P:=P) w t tn ty e i z k kn ht htn hi hz m (by omega) (by omega) (by omega) (by rw [hby];omega)
   have hgr:=own_grown w base e 1 0 m 0 z [] (List.replicate m z) (by rw [hzs];rfl) (by simp) (by simp) h63 (by omega) hbase none
   simp only [Nat.zero_add,List.nil_append] at hgr ⊢
   rw [hzs] at hgr hr
   rw [hzc] at hr
   refine ⟨_,_,hr,?_,hgr.2,⟨by simp [hm],.inr ⟨_,rfl,Nat.le_refl _⟩⟩⟩
   rw [Nat.zero_add]
   exact hgr.1
  ·by_cases hroom:n+m<=cap
   ·have hst:=run_storeCells_cells (P:=P) g (0+n*1) (List.replicate m z) 0 w (fun j hj=>by rw [cell_of_row w g _ cur e (0,0) hg,Array.getElem?_eq_getElem (by simp at hj;omega)];rfl) (fun j _=>frozen_of_row w g _ cur e hg)
     (fun u hu=>by rw [List.eq_of_mem_replicate hu];exact h1)
    have ho:=own_room w base e 1 n m g cap cur xs (List.replicate m z) hown.1 (by simp) hbg hg hcm hcs htake hroom
    refine ⟨.slice (some ⟨g,0,none⟩) (n+m) cap,w.setCells g (n*1) (List.replicate m z),?_,ho.1,ho.2,⟨by simp,.inl rfl⟩⟩
    simp only [Nat.zero_add,Nat.add_zero,Nat.mul_one] at hst ⊢
    simp [Builtin.append_,run_underlying ht,run_underlying htn,sizeOf,typeInfo,zeroValue,hi,hz,asInt,asIntOf,hw,hneg,h48i,hsize,hby,hroom,hm,hzs,hzc,Addr.add_lit,hst]
   ·have holds:∀ j u,xs[j]?=some u->w.drew.cell? ((⟨g,0,none⟩:Addr).add j)=some u:=fun j u hu=>hown.cells (g:=g) rfl j u hu
    have hold:=run_firstCells_some (P:=P) w.drew 1 n ⟨g,0,none⟩ n cap xs hown.1 holds
    have hgr:=own_grown w base e 1 n m cap z xs (List.replicate m z) (by rw [hzs];rfl) hown.1 (by simp) h63 (by omega) hbase (some g)
    have hn:¬ (n+m<=cap):=hroom
    have h63':¬ (9223372036854775807<((n:Int)+(m:Int))):=by omega
    have h48':¬ (281474976710656<Builtin.nextslicecap (n+m) cap):=by
     have:=growslice_fits (need:=n+m) (old:=cap) (bytes:=1) (by omega) (by omega)
     omega
    refine ⟨_,_,?_,hgr.1,hgr.2,⟨by simp,.inr ⟨_,rfl,Nat.le_refl _⟩⟩⟩
    simp [Builtin.append_,run_underlying ht,run_underlying htn,sizeOf,typeInfo,zeroValue,hi,hz,asInt,asIntOf,hw,hneg,h48i,hsize,hby,hn,hm,hzs,hzc,h63',h48',Question.forced,hold,newRow,grownCap]
    congr 2
    apply Array.ext'
    simp [List.append_assoc]
theorem wpList_app {ops : Array Oper} {rest : List Oper} {o : Oper} {a : Act} {Q : Exit → Act → World → Prop} (hgd : o.guard = none) (s x : Operand) (t tx : TypeId)
 (ho:o.op = .call { callee := .builtin .append,args := #[s,x],argTypes := #[t,tx] }) (vs vx:Value) (hs:a.eval s=vs) (hx:a.eval x=vx) {base e size n m:Nat} {xs news:List Value}
 (happ:∀ ty,AppTo P w t tx ty vs vx base e size n m xs news)
 (h:∀ v' w',w'.ownsRow base e size v' (n+m) (xs++news)->w.grownBy w' vs.ownBlock->((v' = .slice none 0 0↔vs = .slice none 0 0/\m=0)/\(v'.ownBlock=vs.ownBlock\/∃ b,v'.ownBlock=some b/\w.heap.size<=b))->wpList P ops Q rest (a.put o.dst v') w'):wpList P ops Q (o::rest) a w:=by
 obtain ⟨v',w',hr,h1,h2,h3⟩:=happ o.type
 exact Lib.wpList_append_run w hgd s x t tx ho vs vx hs hx v' w' hr (h v' w' h1 h2 h3)
theorem step_app {ops : Array Oper} {o : Oper} {a : Act} {K : Act → World → Prop} {Q : Exit → Act → World → Prop} {E : Prop} (hgd : o.guard = none) (s x : Operand) (t tx : TypeId)
 (ho:o.op = .call { callee := .builtin .append,args := #[s,x],argTypes := #[t,tx] }) (vs vx:Value) (hs:a.eval s=vs) (hx:a.eval x=vx) {base e size n m:Nat} {xs news:List Value}
 (happ:∀ ty,AppTo P w t tx ty vs vx base e size n m xs news)
 (h:∀ v' w',w'.ownsRow base e size v' (n+m) (xs++news)->w.grownBy w' vs.ownBlock->((v' = .slice none 0 0↔vs = .slice none 0 0/\m=0)/\(v'.ownBlock=vs.ownBlock\/∃ b,v'.ownBlock=some b/\w.heap.size<=b))->K (a.put o.dst v') w') :
 if Region.wanted o (yielded ops a.tmps)=true then Oper.wp P o a w K Q else E:=by
 obtain ⟨v',w',hr,h1,h2,h3⟩:=happ o.type
 have hw:Region.wanted o (yielded ops a.tmps)=true:=by simp [Region.wanted,hgd]
 rw [if_pos hw]
 unfold Oper.wp execOp
 simp only [ho,resolve,invoke,builtin,Sem.run_bind,Sem.run_pure,Result.andThen_ok,List.map_toArray,List.map_cons,List.map_nil,hs,hx,hr]
 exact h v' w' h1 h2 h3
end
def OwnBs (t : TypeId) (w : World) (B : Nat) (v : Value) (l : List UInt8) : Prop := w.ownsRow B t 1 v l.length (l.map byteV)
theorem OwnBs.nil (t : TypeId) (w : World) (B : Nat) : OwnBs t w B (.slice none 0 0) [] := World.ownsRow_nil w B t 1
theorem OwnBs.slice {t : TypeId} {w : World} {B N : Nat} {v : Value} {l : List UInt8} (h : OwnBs t w B v l) (hN : l.length ≤ N) : SliceC N 1 ByteC w [v] l := by
 rcases h.2 with ⟨rfl,h0⟩|⟨g,cap,cur,rfl,hbg,hg,hnc,hcm,hcs,htake⟩
 ·obtain rfl:l=[]:=List.eq_nil_of_length_eq_zero h0
  exact ⟨none,0,rfl,by simp,by simp,by simp,fun _=>rfl,fun h=>absurd h (by simp)⟩
 ·refine ⟨some ⟨g,0,none⟩,cap,rfl,hnc,hcm,hN,(fun h=>by cases h),fun _=>⟨g,0,rfl,fun i hi=>⟨[byteV l[i]],rfl,fun j hj=>?_,rfl⟩⟩⟩
  obtain rfl:j=0:=by omega
  have:=OwnB.cell (t:=t) (w:=w) (B:=B) (g:=g) (cap:=cap) (l:=l) h hi
  simp only [Nat.zero_add,Nat.mul_one,Nat.add_zero]
  rw [this]
  simp [bl,byteV,List.getD_eq_getElem?_getD,List.getElem?_eq_getElem hi]
theorem OwnBs.form {t : TypeId} {w : World} {B : Nat} {v : Value} {l : List UInt8} (h : OwnBs t w B v l) : (v = .slice none 0 0 ∧ l = []) ∨ ∃ g cap,v = .slice (some ⟨g,0,none⟩) l.length cap ∧ OwnB t w B g cap l := by
 rcases h.2 with ⟨rfl,h0⟩|⟨g,cap,cur,rfl,hbg,hg,hnc,hcm,hcs,htake⟩
 ·exact .inl ⟨rfl,List.eq_nil_of_length_eq_zero h0⟩
 ·exact .inr ⟨g,cap,rfl,h⟩
theorem src_bytes {P : Program} {w : World} {N : Nat} {v : Value} {l : List UInt8} {tx e' : TypeId} (hk : P.underlying tx = some (.slice e')) (h : SliceC N 1 ByteC w [v] l) : Src P 1 tx v l.length (l.map byteV) w := by
 have hone:∀ u∈l.map byteV,u.oneCell'=true:=by
  intro u hu
  obtain ⟨_,_,rfl⟩:=List.mem_map.1 hu
  rfl
 rcases bytes_cases h with ⟨a,cap,rfl,rfl⟩|⟨b,off,cap,rfl,hpos,hle,hm,_,hc⟩
 ·cases a with
  | none=>exact Src.ofNil w hk cap
  | some a=>exact Src.ofSlice w hk a 0 cap [] (by simp) (fun j u hu=>by simp at hu) (fun u hu=>by simp at hu)
 ·refine Src.ofSlice w hk ⟨b,off,none⟩ l.length cap (l.map byteV) (by simp) (fun j u hu=>?_) hone
  have hj:j<l.length:=by
   rcases Nat.lt_or_ge j l.length with h|h
   ·exact h
   ·rw [List.getElem?_eq_none (by simpa using h)] at hu;cases hu
  have e:(⟨b,off,none⟩:Addr).add j=⟨b,off+j,none⟩:=by unfold Addr.add;split<;>simp_all
  rw [e,hc j hj]
  simp [List.getElem?_eq_getElem hj] at hu
  rw [<-hu]
  simp [bl,byteV,List.getD_eq_getElem?_getD,List.getElem?_eq_getElem hj]
theorem app_bytes {P : Program} (w : World) (t tx e e' : TypeId) (i : TypeInfo) (ht : P.underlying t = some (.slice e)) (htx : P.underlying tx = some (.slice e')) (hi : P.info? e = some i) (hz : i.zero = some (.int .u8 0)) (h1 : i.size = 1) (hb : i.bytes = 1)
 {B N:Nat} {v x:Value} {l m:List UInt8} (hv:OwnBs e w B v l) (hx:SliceC N 1 ByteC w [x] m) (hbound:l.length+m.length<=140737488355328) (hB:B<=w.heap.size) (ty:TypeId) :
 AppTo P w t tx ty v x B e 1 l.length m.length (l.map byteV) (m.map byteV) :=
 app_src w t tx ty B e i (.int .u8 0) 1 1 ht hi hz h1 hb rfl (by decide) v x l.length m.length _ _ hv (src_bytes htx hx) (by unfold maxLen;omega) (by omega) hB
theorem app_bytes_zeros {P : Program} (w : World) (t tn e : TypeId) (i : TypeInfo) (ht : P.underlying t = some (.slice e)) (htn : P.underlying tn = some (.int .i64)) (hi : P.info? e = some i) (hz : i.zero = some (.int .u8 0)) (h1 : i.size = 1) (hb : i.bytes = 1)
 {B:Nat} {v:Value} {l:List UInt8} (m:Nat) (hv:OwnBs e w B v l) (hbound:l.length+m<=140737488355328) (hB:B<=w.heap.size) (ty:TypeId) :
 AppTo P w t tn ty v (.int .i64 m) B e 1 l.length m (l.map byteV) ((List.replicate m (0:UInt8)).map byteV):=by
 have:=app_zeros w t tn ty B e i (.int .u8 0) .i64 .i64 ht htn hi hz h1 hb rfl rfl v l.length m _ hv (by unfold maxLen;omega) hbound hB
 simpa [byteV] using this
theorem OwnBs.app {t : TypeId} {w' : World} {B : Nat} {v' : Value} {l m : List UInt8} (h : w'.ownsRow B t 1 v' (l.length + m.length) (l.map byteV ++ m.map byteV)) : OwnBs t w' B v' (l ++ m) := by
 unfold OwnBs
 rw [List.length_append,List.map_append]
 exact h
theorem OwnBs.appz {t : TypeId} {w' : World} {B k : Nat} {v' : Value} {l : List UInt8} (h : w'.ownsRow B t 1 v' (l.length + k) (l.map byteV ++ (List.replicate k (0 : UInt8)).map byteV)) : OwnBs t w' B v' (l ++ List.replicate k 0) := by
 unfold OwnBs
 rw [List.length_append,List.length_replicate,List.map_append]
 exact h
theorem below_app {B : Nat} {w0 w w' : World} {e size n : Nat} {v : Value} {xs : List Value} (hb : Below B w0 w) (hg : w.grownBy w' v.ownBlock) (hv : w.ownsRow B e size v n xs) (hB : B ≤ w.heap.size) : Below B w0 w' :=
 hb.grown hg hB (fun k hk=>(World.ownsRow.lt hv k hk).1)
theorem src_one {P : Program} (w : World) (tx e' e : TypeId) (hk : P.underlying tx = some (.slice e')) (c : Value) (hc : c.oneCell' = true) : Src P 1 tx (.slice (some ⟨w.heap.size,0,none⟩) 1 1) 1 [c] (w.alloc (.cells #[c] e)) := by
 refine Src.ofSlice _ hk ⟨w.heap.size,0,none⟩ 1 1 [c] rfl (fun j u hu=>?_) (fun u hu=>by simp at hu;rw [hu];exact hc)
 match j,hu with
 | 0,hu =>
   simp at hu
   subst hu
   simp [Addr.add]
open Go.RowKit
def partsL (c : UInt8) : List UInt8 → List (List UInt8)
 | []=>[[]]
 | x::l=>if x=c then []::partsL c l else match partsL c l with
   | []=>[[x]]
   | h::t=>(x::h)::t
theorem partsL_cons {c x : UInt8} (h : x ≠ c) (l : List UInt8) : partsL c (x :: l) = match partsL c l with | [] => [[x]] | h :: t => (x :: h) :: t := by
 conv=>lhs;unfold partsL
 rw [if_neg h]
theorem partsL_ne (c : UInt8) : ∀ l,partsL c l ≠ []
 | []=>by simp [partsL]
 | x::l=>by
   unfold partsL
   split
   ·simp
   ·split<;>simp
def addLast (x : UInt8) : List (List UInt8) → List (List UInt8)
 | []=>[[x]]
 | [h]=>[h++[x]]
 | h::t=>h::addLast x t
theorem partsL_snoc (c x : UInt8) : ∀ l,partsL c (l ++ [x]) = if x = c then partsL c l ++ [[]] else addLast x (partsL c l)
 | []=>by
   by_cases h:x=c<;>simp [partsL,addLast,h]
 | a::l=>by
   have ih:=partsL_snoc c x l
   have hne:=partsL_ne c l
   simp only [List.cons_append,partsL]
   rw [ih]
   by_cases ha:a=c
   ·by_cases hx:x=c
    ·simp [ha,hx]
    ·simp only [ha,hx,if_true,if_false]
     cases hp:partsL c l with
     | nil=>exact absurd hp hne
     | cons h t=>rfl
   ·by_cases hx:x=c
    ·simp only [ha,hx,if_true,if_false]
     cases hp:partsL c l with
     | nil=>exact absurd hp hne
     | cons h t=>rfl
    ·simp only [ha,hx,if_false]
     cases hp:partsL c l with
     | nil=>exact absurd hp hne
     | cons h t =>
       cases t with
       | nil=>rfl
       | cons h2 t2=>rfl
theorem index_one_no (c : UInt8) : ∀ l : List UInt8,Lib.index l [c] = -1 → partsL c l = [l]
 | [],_=>rfl
 | b::l,h=>by
   unfold Lib.index at h
   by_cases hb:c=b
   ·simp [hb] at h
   ·have hp:([c].isPrefixOf (b::l))=false:=(show (c==b&&List.isPrefixOf [] l)=false by rw [beq_eq_false_iff_ne.2 hb];rfl)
    rw [hp] at h
    simp only [Bool.false_eq_true,if_false] at h
    have hi:Lib.index l [c] = -1:=by
     by_cases e:(Lib.index l [c] == -1)=true
     ·simpa using e
     ·rw [if_neg e] at h
      have:=Lib.index_ge l [c]
      omega
    have ih:=index_one_no c l hi
    rw [partsL_cons (fun e=>hb e.symm),ih]
theorem index_one_yes (c : UInt8) : ∀ (l : List UInt8) (i : Nat),Lib.index l [c] = i → i < l.length ∧ partsL c l = l.take i :: partsL c (l.drop (i + 1))
 | [],i,h=>by simp [Lib.index] at h
 | b::l,i,h=>by
   unfold Lib.index at h
   by_cases hb:c=b
   ·have hp:([c].isPrefixOf (b::l))=true:=by simp [hb]
    rw [hp] at h
    simp only [if_true] at h
    obtain rfl:i=0:=by omega
    refine ⟨by simp,?_⟩
    simp [partsL,hb]
   ·have hp:([c].isPrefixOf (b::l))=false:=(show (c==b&&List.isPrefixOf [] l)=false by rw [beq_eq_false_iff_ne.2 hb];rfl)
    rw [hp] at h
    simp only [Bool.false_eq_true,if_false] at h
    by_cases e:(Lib.index l [c] == -1)=true
    ·rw [if_pos e] at h;omega
    ·rw [if_neg e] at h
     have hg:=Lib.index_ge l [c]
     have e':Lib.index l [c] ≠ -1:=by simpa using e
     obtain ⟨j,rfl⟩:∃ j,i=j+1:=⟨i-1,by omega⟩
     obtain ⟨h1,ih⟩:=index_one_yes c l j (by omega)
     refine ⟨by simp;omega,?_⟩
     rw [partsL_cons (fun e=>hb e.symm),ih]
     rfl
theorem splitB_parts (c : UInt8) : ∀ (n : Nat) (s : ByteArray),s.size ≤ n → (Lib.splitB (ofL [c]) 0 (Lib.countB s (ofL [c])) s).map (fun p => p.data.toList) = partsL c s.data.toList := by
 intro n
 induction n with
 | zero =>
   intro s hs
   have h0:s.data.toList=[]:=List.eq_nil_of_length_eq_zero (by rw [<-Lib.size_eq s];omega)
   have hi:Lib.indexB s (ofL [c]) = -1:=by unfold Lib.indexB;rw [h0,ofL_data];rfl
   rw [Lib.splitB_miss _ _ _ _ hi,h0]
   simp [h0,partsL]
 | succ n ih =>
   intro s hs
   rcases Lib.indexB_cases s (ofL [c]) with hi|⟨i,hi,hle⟩
   ·rw [Lib.splitB_miss _ _ _ _ hi]
    have:=index_one_no c s.data.toList (by unfold Lib.indexB at hi;rwa [ofL_data] at hi)
    rw [this];rfl
   ·have h1:(ofL [c]).size=1:=rfl
    rw [Lib.countB_hit s (ofL [c]) i (by rw [h1];exact Nat.le_refl 1) hi,Nat.add_comm,Lib.splitB_hit _ _ _ _ i hi]
    obtain ⟨h2,h3⟩:=index_one_yes c s.data.toList i (by unfold Lib.indexB at hi;rwa [ofL_data] at hi)
    rw [h3,List.map_cons,h1]
    have hsz:s.size=s.data.toList.length:=Lib.size_eq s
    have e1:(s.extract 0 (i+0)).data.toList=List.take i s.data.toList:=by rw [Lib.extract_data];simp
    have e2:(s.extract (i+1) s.size).data.toList=List.drop (i+1) s.data.toList:=by
     rw [Lib.extract_data]
     exact List.take_of_length_le (by simp)
    rw [ih (s.extract (i+1) s.size) (by simp;omega),e2,e1]
def OwnSs (t : TypeId) (w : World) (B : Nat) (v : Value) (l : List ByteArray) : Prop := w.ownsRow B t 1 v l.length (l.map Value.string)
def piece (l : List ByteArray) (k : Nat) : ByteArray := l.getD k ByteArray.empty
theorem piece_eq {l : List ByteArray} {k : Nat} (h : k < l.length) : piece l k = l[k] := by simp [piece,List.getD_eq_getElem?_getD,List.getElem?_eq_getElem h]
theorem OwnSs.cell {t : TypeId} {w : World} {B g cap : Nat} {l : List ByteArray} (h : OwnSs t w B (.slice (some ⟨g,0,none⟩) l.length cap) l) {j : Nat} (hj : j < l.length) : w.cell? ⟨g,j,none⟩ = some (.string (piece l j)) := by
 rw [World.ownsRow.cellAt h j (by omega),piece_eq hj]
 simp [List.getElem?_eq_getElem hj]
theorem OwnSs.form {t : TypeId} {w : World} {B : Nat} {v : Value} {l : List ByteArray} (h : OwnSs t w B v l) : (v = .slice none 0 0 ∧ l = []) ∨ ∃ g cap,v = .slice (some ⟨g,0,none⟩) l.length cap ∧ B ≤ g ∧ g < w.heap.size ∧ l.length ≤ cap ∧ cap ≤ maxLen := by
 rcases h.2 with ⟨rfl,h0⟩|⟨g,cap,cur,rfl,hbg,hg,hnc,hcm,hcs,htake⟩
 ·exact .inl ⟨rfl,List.eq_nil_of_length_eq_zero h0⟩
 ·refine .inr ⟨g,cap,rfl,hbg,?_,hnc,hcm⟩
  rcases Nat.lt_or_ge g w.heap.size with h'|h'
  ·exact h'
  ·rw [Array.getElem?_eq_none h'] at hg;cases hg
theorem OwnSs.below {t : TypeId} {w w' : World} {B : Nat} {v : Value} {l : List ByteArray} (h : OwnSs t w B v l) (hb : Below w.heap.size w w') : OwnSs t w' B v l := by
 refine ⟨h.1,?_⟩
 rcases h.2 with h0|⟨g,cap,cur,hv,hbg,hg,r⟩
 ·exact .inl h0
 ·refine .inr ⟨g,cap,cur,hv,hbg,?_,r⟩
  rw [hb.block g]
  ·exact hg
  ·rcases Nat.lt_or_ge g w.heap.size with h'|h'
   ·exact h'
   ·rw [Array.getElem?_eq_none h'] at hg;cases hg
def RetSs (t : TypeId) (w : World) (l : List ByteArray) (e : Ending) (w' : World) : Prop := ∃ v,e = .returned v ∧ OwnSs t w' w.heap.size v l ∧ Below w.heap.size w w'
theorem OwnSs.app {t : TypeId} {w' : World} {B : Nat} {v' : Value} {l m : List ByteArray} (h : w'.ownsRow B t 1 v' (l.length + m.length) (l.map Value.string ++ m.map Value.string)) : OwnSs t w' B v' (l ++ m) := by
 unfold OwnSs
 rw [List.length_append,List.map_append]
 exact h
def MaxOk (w : World) : Prop := 2 < w.heap.size ∧ ∃ m,w.cell? ⟨2,0,none⟩ = some (.int .i64 m)
theorem MaxOk.below {w w' : World} (h : MaxOk w) (hb : Below w.heap.size w w') : MaxOk w' := by
 obtain ⟨h0,m,hm⟩:=h
 exact ⟨Nat.lt_of_lt_of_le h0 hb.size,m,(hb.cell (p:=⟨2,0,none⟩) h0).trans hm⟩
def partsS (c : UInt8) (s : ByteArray) : List ByteArray := (partsL c s.data.toList).map ofL
theorem map_ofL {l : List ByteArray} {m : List (List UInt8)} (h : l.map (fun p => p.data.toList) = m) : l = m.map ofL := by
 rw [<-h,List.map_map]
 conv=>lhs;rw [<-List.map_id l]
 apply List.map_congr_left
 intro s _
 simp [ofL_of]
theorem partsL_length (c : UInt8) : ∀ l,(partsL c l).length ≤ l.length + 1
 | []=>by simp [partsL]
 | x::l=>by
   have ih:=partsL_length c l
   by_cases h:x=c
   ·simp only [partsL,h,if_true,List.length_cons];omega
   ·rw [partsL_cons h]
    cases hp:partsL c l with
    | nil=>simp
    | cons a t=>rw [hp] at ih;simp at ih ⊢;omega
theorem partsL_sizes (c : UInt8) : ∀ l,∀ p ∈ partsL c l,p.length ≤ l.length
 | [],p,hp=>by simp [partsL] at hp;simp [hp]
 | x::l,p,hp=>by
   have ih:=partsL_sizes c l
   by_cases h:x=c
   ·simp only [partsL,h,if_true,List.mem_cons] at hp
    rcases hp with rfl|hp
    ·simp
    ·have:=ih p hp;simp;omega
   ·rw [partsL_cons h] at hp
    cases hq:partsL c l with
    | nil=>rw [hq] at hp;simp at hp;simp [hp]
    | cons a t =>
      rw [hq] at hp ih
      simp only [List.mem_cons] at hp
      rcases hp with rfl|hp
      ·have:=ih a (by simp);simp;omega
      ·have:=ih p (by simp [hp]);simp;omega
theorem piece_le {l : List ByteArray} {n : Nat} (h : ∀ p ∈ l,p.size ≤ n) (k : Nat) : (piece l k).size ≤ n := by
 by_cases hk:k<l.length
 ·rw [piece_eq hk];exact h _ (List.getElem_mem _)
 ·unfold piece
  rw [List.getD_eq_getElem?_getD,List.getElem?_eq_none (by omega)]
  simp
theorem addLast_set (x : UInt8) : ∀ {l : List (List UInt8)},l ≠ [] → (addLast x l).map ofL = (l.map ofL).set (l.length - 1) (piece (l.map ofL) (l.length - 1) ++ ofL [x])
 | [],h=>absurd rfl h
 | [h],_=>by simp [addLast,piece,ofL_append]
 | a::b::t,_=>by
   have ih:=addLast_set x (l:=b::t) (by simp)
   simp only [addLast,List.map_cons,List.length_cons,Nat.add_sub_cancel] at ih ⊢
   rw [ih]
   simp [piece]
end Go.Creel
namespace Go.Proofs.YtaffgndickdbiaaGreatDoor
open Go.Creel Go.RowKit
theorem SplitSlash_any (s : ByteArray) (w : World) (hM : MaxOk w) (hs : s.size ≤ 4000000000) :
 Calls Tryz.prog 145 #[.string s,.string ⟨#[47]⟩] w (RetSs 9 w (partsS 47 s)):=by
 obtain ⟨h0,m,hm⟩:=hM
 have key:=splitB_parts 47 s.size s (Nat.le_refl _)
 have hk:=map_ofL key
 refine (Tryz.strings_Split s (ofL [47]) m w (by omega) hm (Nat.le_refl 1)).mono ?_
 rintro e w' ⟨rfl,rfl⟩
 have hl:(Lib.splitB (ofL [47]) 0 (Lib.countB s (ofL [47])) s).length=Lib.countB s (ofL [47])+1:=Lib.splitB_all (ofL [47]) (Nat.le_refl 1) 0 _ s rfl
 have hcl:=Lib.countB_le (ofL [47]) (Nat.le_refl 1) s.size s (Nat.le_refl _)
 refine ⟨_,rfl,?_,(Below.refl _ _).alloc (Nat.le_refl _) _⟩
 unfold partsS
 rw [<-hk]
 unfold OwnSs
 rw [hl]
 have:=World.ownsRow_lit (base:=w.heap.size) (e:=9) (size:=1) w ((Lib.splitB (ofL [47]) 0 (Lib.countB s (ofL [47])) s).map Value.string).toArray (Lib.countB s (ofL [47])+1) (Nat.le_refl _) (by unfold maxLen;omega) (by simp [hl])
 simpa using this
theorem info_string : (Tryz.prog.info? 9).map (fun i => (i.zero,i.size,i.bytes)) = some (some (.string ByteArray.empty),1,16) := by kernel_rfl
set_option maxRecDepth 100000 in
set_option maxHeartbeats 2000000 in
theorem parts_any (s : ByteArray) (c : UInt8) (n : Int) (hn : n = c.toNat) (w : World) (hs : s.size ≤ 4000000000) :
 Calls Tryz.prog 164 #[.string s,.int .u8 n] w (RetSs 9 w (partsS c s)):=by
 obtain ⟨i0,hi,hz0,hz1,hz2⟩:=info_parts info_string
 have HI:=Lib.hid (And.intro hi (And.intro hz0 (And.intro hz1 hz2)))
 have HN:=Lib.hid hn
 have h0:OwnSs 9 (w.alloc (.cells #[.string ⟨#[]⟩] 9)) w.heap.size (.slice (some ⟨w.heap.size,0,none⟩) 1 1) [ofL []] :=
  World.ownsRow_lit w #[.string ⟨#[]⟩] 1 (Nat.le_refl _) (by decide) rfl
 have H0:=Lib.hid h0
 have HB0:=Lib.hid ((Below.refl w.heap.size w).alloc (Nat.le_refl _) (.cells #[.string ⟨#[]⟩] 9))
 clear h0 hn hi hz0 hz1 hz2
 go_enter Tryz.func164,Tryz.ntmps164
 go_wp2
 go_loopw [5,6] (fun v i wr=>∃ k:Nat,k<=s.size/\i = .int .i64 k/\OwnSs 9 wr w.heap.size v ((partsL c (s.data.toList.take k)).map ofL)/\Below w.heap.size w wr) (fun _ i _=>s.size-(intOf i).toNat)
 case atStart=>exact ⟨0,by omega,rfl,H0.out,HB0.out⟩
 case round =>
  obtain ⟨k,hk,rfl,ho,hb⟩:=hrel
  have hne:=partsL_ne c (s.data.toList.take k)
  have hlen:((partsL c (s.data.toList.take k)).map ofL).length<=k+1:=by
   have:=partsL_length c (s.data.toList.take k)
   have h2:(s.data.toList.take k).length<=k:=List.length_take_le _ _
   rw [List.length_map];omega
  have hpos:0<((partsL c (s.data.toList.take k)).map ofL).length:=by
   rw [List.length_map];exact List.length_pos_iff.2 hne
  by_cases hlt:k<s.size
  ·have hb':s[k].toNat<256:=UInt8.toNat_lt _
   have HB:=Lib.hid (byt_get s k hlt)
   have hsn:s.data.toList.take (k+1)=s.data.toList.take k++[s[k]]:=by
    rw [List.take_succ_eq_append_getElem (by simpa using hlt)];rfl
   by_cases hc:byt s k=c.toNat
   ·have hx:s[k]=c:=UInt8.toNat_inj.1 ((byt_get s k hlt).trans hc)
    have HS:=Lib.hid (show (partsL c (s.data.toList.take (k+1))).map ofL=(partsL c (s.data.toList.take k)).map ofL++[ofL []] by
     rw [hsn,partsL_snoc,if_pos hx,List.map_append];rfl)
    have hq:(((s[k].toNat:Nat):Int)==n)=true:=by rw [HN.out,HB.out,hc];simp
    have hbsz:=hb.size
    have HO1:=Lib.hid (World.ownsRow.alloc ho (.cells #[.string ⟨#[]⟩] 9))
    have hb1:=(Below.refl wr.heap.size wr).alloc (Nat.le_refl _) (.cells #[.string ⟨#[]⟩] 9)
    have HSZ:=Lib.hid (Nat.le_trans hbsz hb1.size)
    have HB1:=Lib.hid (hb.alloc hbsz (.cells #[.string ⟨#[]⟩] 9))
    generalize hP:(partsL c (s.data.toList.take k)).map ofL=P at *
    clear ho hb hb1 hc hx hsn hne
    go_wp2_with (at_builtin;refine wpList_app _ rfl (.tmp 19) (.tmp 20) 167 167 rfl _ _ rfl rfl (n:=P.length) (fun ty=>app_src _ _ _ _ w.heap.size 9 i0 (.string ByteArray.empty) 1 16 Tryz.underlying167 HI.out.1 HI.out.2.1 HI.out.2.2.1 HI.out.2.2.2 rfl (by decide) _ _ _ _ _ _ HO1.out (src_one wr _ _ _ Tryz.underlying167 _ rfl) (by unfold maxLen;omega) (by omega) HSZ.out) ?_;intro v1 w1 ho hg _)
    have HO2:=Lib.hid (OwnSs.app (m:=[ofL []]) ho)
    have HB2:=Lib.hid (below_app HB1.out hg HO1.out HSZ.out)
    clear ho hg
    go_wp2
    go_roundw
    case rel=>exact ⟨k+1,by omega,by go_num,by rw [HS.out];exact HO2.out,HB2.out⟩
    case measure=>simp [intOf];omega
   ·have hx:s[k]≠c:=fun e=>hc ((byt_get s k hlt).symm.trans (by rw [e]))
    have HS:=Lib.hid (show (partsL c (s.data.toList.take (k+1))).map ofL=((partsL c (s.data.toList.take k)).map ofL).set (((partsL c (s.data.toList.take k)).map ofL).length-1) (piece ((partsL c (s.data.toList.take k)).map ofL) (((partsL c (s.data.toList.take k)).map ofL).length-1)++ofL [s[k]]) by
     rw [hsn,partsL_snoc,if_neg hx,addLast_set _ hne,List.length_map])
    have hq:(((s[k].toNat:Nat):Int)==n)=false:=by rw [HN.out,HB.out,beq_eq_false_iff_ne];omega
    have hex:s.extract k (k+1)=ofL [s[k]]:=by
     apply ext_bytes
     rw [Lib.extract_data,ofL_data,List.drop_eq_getElem_cons (by simpa using hlt)]
     simp
     rfl
    have HEX:=Lib.hid hex
    have hpz:(piece ((partsL c (s.data.toList.take k)).map ofL) (((partsL c (s.data.toList.take k)).map ofL).length-1)).size<=s.size:=by
     have h1:=partsL_sizes c (s.data.toList.take k)
     have h2:(s.data.toList.take k).length<=s.size:=by simp;omega
     refine Nat.le_trans (piece_le (fun p hp=>?_) _) h2
     obtain ⟨q,hq,rfl⟩:=List.mem_map.1 hp
     rw [ofL_size];exact h1 q hq
    have hform:=ho.form
    rcases hform with ⟨_,e0⟩|⟨g,cap,hv,hgB,hgw,hcap,hcapm⟩
    ·rw [e0] at hpos;simp at hpos
    ·subst hv
     have hcell:=ho.cell (j:=((partsL c (s.data.toList.take k)).map ofL).length-1) (by omega)
     have hfree:=World.ownsRow.frozenAt ho (((partsL c (s.data.toList.take k)).map ofL).length-1)
     have HO:=Lib.hid ho
     have HBB:=Lib.hid hb
     have HGB:=Lib.hid hgB
     generalize hP:(partsL c (s.data.toList.take k)).map ofL=P at *
     generalize hpp:piece P (P.length-1)=pp at *
     have HPP:=Lib.hid hpp
     unfold maxLen at hcapm
     clear ho hb hc hx hsn hne hex hpp hgB
     have hpi:((P.length:Int)-1).toNat=P.length-1:=by omega
     go_wp2
     have HST:=Lib.hid ((World.ownsRow.stored HO.out (P.length-1) (.string (pp++s.extract k (k+1)))).1)
     go_region
     go_wp2
     go_roundw
     case rel =>
      refine ⟨k+1,by omega,by go_num,?_,(HBB.out.setCell HGB.out _).drew⟩
      have e:=HST.out
      have e2:=HS.out
      rw [e2]
      unfold OwnSs
      rw [List.length_set,List.map_set,<-HEX.out]
      exact e
     case measure=>simp [intOf];omega
  ·obtain rfl:k=s.size:=by omega
   have HO:=Lib.hid ho
   have HB:=Lib.hid hb
   have hz:s.data.toList.take s.size=s.data.toList:=by rw [Lib.size_eq s];exact List.take_length
   have HZ:=Lib.hid hz
   clear ho hb hne hlen hz
   go_wp2
   go_ret
   refine ⟨_,rfl,?_,HB.out⟩
   have:=HO.out
   rw [HZ.out] at this
   exact this
end Go.Proofs.YtaffgndickdbiaaGreatDoor
