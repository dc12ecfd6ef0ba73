/- A part of the proof. -/
import Derived.Test.YtaffgndickdbiaaGreatDoorV11
import Derived.Test.YtaffgndickdbiaaGreatDoorV12
import Derived.Lib.AtoiAll
import Derived.Lib.ConvBytes
set_option linter.unusedVariables false
set_option linter.unusedSimpArgs false
set_option linter.unusedSectionVars false
set_option maxRecDepth 100000
set_option maxHeartbeats 2000000
namespace Go.Creel
def B0r (p n : ByteArray) : ByteArray := if p.size = 0 then n else p ++ ofL [47] ++ n
open Classical in
noncomputable def A2o (p n : ByteArray) : ByteArray × Int :=
 if n.size=0\/100<n.size\/155<p.size then (ByteArray.empty,1)
 else if A4d (B0r p n)=(p,n,0) then (B0r p n,0) else (ByteArray.empty,3)
theorem C5w {p n : ByteArray} (h : n.size = 0 ∨ 100 < n.size ∨ 155 < p.size) : A2o p n = (ByteArray.empty,1) := by unfold A2o; rw [if_pos h]
theorem D5d {p n : ByteArray} (h : ¬ (n.size = 0 ∨ 100 < n.size ∨ 155 < p.size)) (h2 : A4d (B0r p n) = (p,n,0)) : A2o p n = (B0r p n,0) := by unfold A2o; rw [if_neg h,if_pos h2]
theorem D3v {p n : ByteArray} (h : ¬ (n.size = 0 ∨ 100 < n.size ∨ 155 < p.size)) (h2 : A4d (B0r p n) ≠ (p,n,0)) : A2o p n = (ByteArray.empty,3) := by unfold A2o; rw [if_neg h,if_neg h2]
theorem C6m {a b : ByteArray} (h : a ≠ b) : (!(a.toList == b.toList)) = true := by rw [A5w h]; rfl
theorem E6i {a b : ByteArray} (h : a = b) : (!(a.toList == b.toList)) = false := by rw [B3n h]; rfl
open Go.RowKit
noncomputable def A6g (b : List UInt8) : HeadN × Int := A9q (ofL (b.take 512))
theorem D8r (s : ByteArray) : 0 ≤ (A9j s).1 ∧ (A9j s).1 < 8589934592 := by
 unfold A9j;split
 ·split
  ·rename_i h1 h2
   have h3:=E7c s (s.size-1) h2.1;have h8:8 ^ (s.size-1)<=8 ^ 11:=Nat.pow_le_pow_right (by decide) (by omega);have e:(8:Nat) ^ 11=8589934592:=by decide
   simp only;omega
  ·simp
 ·simp
theorem C7n (s : ByteArray) : (A9q s).1 = A5a ∨ (A9q s).1 = A0w s := by
 unfold A9q;split
 ·exact .inl rfl
 ·split
  ·exact .inl rfl
  ·split
   ·exact .inl rfl
   ·exact .inr rfl
theorem C8n (b : List UInt8) : 0 ≤ (A6g b).1.size ∧ (A6g b).1.size < 8589934592 := by
 unfold A6g;generalize ofL (b.take 512)=s;rcases C7n s with e|e<;>rw [e]
 ·simp [A5a]
 ·simp only [A0w];have h:=D8r (s.extract 124 136);generalize A9j (s.extract 124 136)=p at *;exact h
noncomputable def A4b (b : List UInt8) : HeadN × List UInt8 × List UInt8 × Int :=
 if b.length<512 then (A5a,[],[],7)
 else if ¬ (A6g b).2=0 then (A5a,[],[],(A6g b).2)
 else ((A6g b).1,A7f (b.drop 512) (A6g b).1.size)
theorem B4d {b : List UInt8} (h : b.length < 512) : A4b b = (A5a,[],[],7) := if_pos h
theorem B3i {b : List UInt8} (h : ¬ b.length < 512) (h2 : ¬ (A6g b).2 = 0) : A4b b = (A5a,[],[],(A6g b).2) := by unfold A4b; rw [if_neg h,if_pos h2]
theorem B6p {b : List UInt8} (h : ¬ b.length < 512) (h2 : (A6g b).2 = 0) : A4b b = ((A6g b).1,A7f (b.drop 512) (A6g b).1.size) := by unfold A4b; rw [if_neg h,if_neg (by simpa using h2)]
noncomputable def B6t (b : List UInt8) : HeadN × List UInt8 × Int × Int :=
 if (A4b b).2.2.2=0 then ((A4b b).1,(A4b b).2.1,((512+(A3f (A4b b).2.1).length:Nat):Int),0) else (A5a,[],0,(A4b b).2.2.2)
theorem F6b {l : List UInt8} {n : Int} (h : (A7f l n).2.2 = 0) : (A3f (A7f l n).1).length + (A7f l n).2.1.length = l.length ∧ (A3f (A7f l n).1).length ≤ l.length ∧ (A7f l n).2.1 = l.drop (A3f (A7f l n).1).length := by
 unfold A7f at h ⊢;split at h
 ·cases h
 ·split at h
  ·cases h
  ·split at h
   ·rename_i h1 h2 h3
    rw [if_neg h1,if_neg h2,if_pos h3];have hl:(A3f (l.take n.toNat)).length=(n.toNat+511) / 512*512:=by
     unfold A3f A6u;rw [List.length_append,List.length_replicate,List.length_take];omega
    simp only [hl,List.length_drop];refine ⟨by omega,by omega,trivial⟩
   ·cases h
theorem D8d {b : List UInt8} (h : (A4b b).2.2.2 = 0) : 512 + (A3f (A4b b).2.1).length + (A4b b).2.2.1.length = b.length ∧ (A4b b).2.2.1 = b.drop (512 + (A3f (A4b b).2.1).length) := by
 by_cases h1:b.length<512
 ·rw [B4d h1] at h;cases h
 ·by_cases h2:(A6g b).2=0
  ·rw [B6p h1 h2] at h ⊢;obtain ⟨a1,a2,a3⟩:=F6b h;simp only;rw [List.length_drop] at a1;refine ⟨by omega,?_⟩;rw [a3,List.drop_drop]
  ·rw [B3i h1 h2] at h;exact absurd h h2
theorem D1r {l : List UInt8} {n : Int} : (A7f l n).1.length ≤ l.length ∧ (A7f l n).2.1.length ≤ l.length := by
 unfold A7f;split
 ·simp
 ·split
  ·simp
  ·split
   ·simp only [List.length_take,List.length_drop];omega
   ·simp
def B5i (t : TypeId) (w : World) (B : Nat) (v : Value) (l : List UInt8) : Prop :=
 (v=.slice none 0 0/\l=[])\/∃ g cap cur lo hi,v=.slice (some ⟨g,0,none⟩) l.length cap/\B<=g/\w.heap[g]?=some (.cells cur t (lo,hi))/\(hi<=lo\/cur.size<=lo)/\l.length<=cap/\cap<=maxLen/\cur.size=cap/\cur.toList.take l.length=l.map A0n
theorem B5i.nil (t : TypeId) (w : World) (B : Nat) : B5i t w B (.slice none 0 0) [] := .inl ⟨rfl,rfl⟩
theorem OwnBs.marked {t : TypeId} {w : World} {B : Nat} {v : Value} {l : List UInt8} (h : OwnBs t w B v l) : B5i t w B v l := by
 rcases h.2 with ⟨rfl,h0⟩|⟨g,cap,cur,rfl,hbg,hg,hnc,hcm,hcs,htake⟩
 ·exact .inl ⟨rfl,List.eq_nil_of_length_eq_zero h0⟩
 ·exact .inr ⟨g,cap,cur,0,0,rfl,hbg,hg,.inl lr,hnc,hcm,by simpa using hcs,by simpa using htake⟩
theorem C7g (s : ByteArray) : s.data.toList.length = s.size := by simp
theorem B5i.conv (w : World) (t : TypeId) (s : ByteArray) (h : s.size ≤ maxLen) : B5i t (Lib.bytesWorld w t s) w.heap.size (.slice (some ⟨w.heap.size,0,none⟩) s.size (grownCap w s.size 0 t)) s.data.toList := by
 have hge:=grownCap_ge w s.size 0 t;have hcs:(Lib.bytesCells w t s).size=grownCap w s.size 0 t:=by
  unfold Lib.bytesCells;simp only [Array.size_append,Array.size_map,Array.size_replicate];have:s.data.size=s.size:=rfl;omega
 refine .inr ⟨w.heap.size,_,_,_,_,by rw [C7g],Nat.le_refl _,Lib.bytesWorld_at_new w t s,.inr lr,by rw [C7g];exact hge,grownCap_le_maxLen w s.size 0 t h,hcs,?_⟩;unfold Lib.bytesCells;rw [Array.toList_append,Array.toList_map];rw [show s.data.toList.length=(s.data.toList.map fun b=>Value.int .u8 b.toNat).length by simp];exact List.take_left
theorem B0f (w : World) (t : TypeId) (s : ByteArray) : Below w.heap.size w (Lib.bytesWorld w t s) :=
 ⟨rfl,rfl,rfl,by rw [Lib.bytesWorld_size];omega,fun k hk=>Lib.bytesWorld_at_old w t s k hk⟩
section
variable {t : TypeId} {w w' : World} {B B' : Nat} {v : Value} {l m : List UInt8}
theorem B5i.below (h : B5i t w B v l) (hb : Below w.heap.size w w') : B5i t w' B v l := by
 rcases h with h|⟨g,cap,cur,lo,hi,h1,h2,h3,h4⟩
 ·exact .inl h
 ·exact .inr ⟨g,cap,cur,lo,hi,h1,h2,(hb.block g (ltO h3)).trans h3,h4⟩
theorem B5i.mono (h : B5i t w B v l) (hb : B' ≤ B) : B5i t w B' v l := by
 rcases h with h|⟨g,cap,cur,lo,hi,h1,h2,h3⟩
 ·exact .inl h
 ·exact .inr ⟨g,cap,cur,lo,hi,h1,Nat.le_trans hb h2,h3⟩
theorem B5i.lt (h : B5i t w B v l) {k : Nat} (hk : v.ownBlock = some k) : B ≤ k ∧ k < w.heap.size := by
 rcases h with ⟨rfl,_⟩|⟨g,cap,cur,lo,hi,rfl,h2,h3,_⟩
 ·cases hk
 ·cases hk;exact ⟨h2,(ltO h3)⟩
theorem B5i.form (h : B5i t w B v l) : ∃ a cap,v = .slice a l.length cap ∧ cap ≤ maxLen := by
 rcases h with ⟨rfl,rfl⟩|⟨g,cap,cur,lo,hi,rfl,_,_,_,_,h6,_⟩
 ·exact ⟨none,0,rfl,by simp⟩
 ·exact ⟨_,cap,rfl,h6⟩
theorem B5i.slice {N : Nat} (h : B5i t w B v l) (hN : l.length ≤ N) : A4a N 1 A1e w [v] l := by
 rcases h with ⟨rfl,rfl⟩|⟨g,cap,cur,lo,hi,rfl,_,hg,_,hnc,hcm,hcs,htake⟩
 ·exact ⟨none,0,rfl,by simp,by simp,by simp,fun _=>rfl,fun h=>absurd h (by simp)⟩
 ·refine ⟨some ⟨g,0,none⟩,cap,rfl,hnc,hcm,hN,(fun h=>by cases h),fun _=>⟨g,0,rfl,fun i hi=>⟨[A0n l[i]],rfl,fun j hj=>?_,rfl⟩⟩⟩;obtain rfl:j=0:=by omega
  simp only [Nat.zero_add,Nat.mul_one,Nat.add_zero];rw [cell_of_row w g i cur t _ hg];have e:=congrArg (fun x=>x[i]?) htake;simp only [List.getElem?_take,hi,if_true,List.getElem?_map,List.getElem?_eq_getElem hi,Option.map_some] at e;simpa using e
theorem C7a (w : World) (g i : Nat) (cs : Array Value) (t : TypeId) (fr : Nat × Nat) (v : Value) (hg : w.heap[g]? = some (.cells cs t fr)) :
 (w.setCell ⟨g,i,none⟩ v).heap[g]?=some (.cells (cs.setIfInBounds i v) t fr):=by
 simp [World.setCell,Array.getElem?_modify,hg]
theorem B8r (g : Nat) {e : TypeId} {fr : Nat × Nat} : ∀ (vs : List Value) (o : Nat) (w : World) (cur : Array Value),w.heap[g]? = some (.cells cur e fr) → o + vs.length ≤ cur.size →
 ∃ cur':Array Value,(w.setCells g o vs).heap[g]?=some (.cells cur' e fr)/\cur'.size=cur.size/\cur'.toList.take (o+vs.length)=cur.toList.take o++vs
 | [],o,w,cur,h,_=>⟨cur,h,rfl,by simp⟩
 | v::r,o,w,cur,h,hl=>by
   have h1:=C7a w g o cur e fr v h;obtain ⟨cur',a1,a2,a3⟩:=B8r g r (o+1) (w.setCell ⟨g,o,none⟩ v) _ h1 (by simp at hl ⊢;omega);refine ⟨cur',a1,by simpa using a2,?_⟩;have e1:o+(v::r).length=o+1+r.length:=by simp;omega
   rw [e1,a3];have ho:o<cur.toList.length:=by simp at hl ⊢;omega
   rw [Array.toList_setIfInBounds,List.take_succ_eq_append_getElem (by simpa using ho)];simp [List.take_set,List.getElem_set];exact List.set_eq_of_length_le (by simp;omega)
theorem E5z {P : Program} {w : World} {tx : TypeId} (hk : P.underlying tx = some .string) (s : ByteArray) : Src P 1 tx (.string s) s.data.toList.length (s.data.toList.map A0n) w := by
 rw [C7g];exact Src.ofString w hk s
end
def AppM (P : Program) (w : World) (t tx ty : TypeId) (v x : Value) (B : Nat) (e : TypeId) (l m : List UInt8) : Prop :=
 ∃ v' w',(Builtin.append_ #[t,tx] ty #[v,x]).run P w=.ok v' w'/\B5i e w' B v' (l++m)/\w.grownBy w' v.ownBlock
theorem E2f {P : Program} (w : World) (t tx e ty : TypeId) (i : TypeInfo) (ht : P.underlying t = some (.slice e)) (hi : P.info? e = some i) (hz : i.zero = some (.int .u8 0)) (h1 : i.size = 1) (hb : i.bytes = 1)
 {B:Nat} {v x:Value} {l m:List UInt8} (hv:B5i e w B v l) (hs:Src P 1 tx x m.length (m.map A0n) w) (hbound:l.length+m.length<=140737488355328) (hB:B<=w.heap.size):AppM P w t tx ty v x B e l m:=by
 rcases hv with ⟨rfl,rfl⟩|⟨g,cap,cur,lo,hi',rfl,hbg,hg,hmk,hnc,hcm,hcs,htake⟩
 ·obtain ⟨v',w',a1,a2,a3,_⟩:=A8g w t tx ty B e i (.int .u8 0) 1 1 ht hi hz h1 hb rfl (by decide) (.slice none 0 0) x 0 m.length [] (m.map A0n) (World.ownsRow_nil w B e 1) hs (by unfold maxLen;simp at hbound;omega) (by simp at hbound;omega) hB;exact ⟨v',w',a1,(OwnBs.app (l:=[]) (m:=m) (by simpa using a2)).marked,a3⟩
 ·by_cases hroom:l.length+m.length<=cap
  ·have hfz:∀ j,j<cur.size->w.frozen? ⟨g,j,none⟩=false:=by
    intro j hj;simp only [World.frozen?,hg];rcases hmk with h|h
    ·simp;omega
    ·simp;omega
   have hr:=run_append_room_src (P:=P) w t tx ty e i ht hi g 0 l.length cap x m.length (m.map A0n) (by rw [h1];exact hs) hroom
    (fun j hj=>by rw [h1,cell_of_row w g _ cur e _ hg,Nat.zero_add,Array.getElem?_eq_getElem (by simp at hj;omega)];rfl) (fun j hj=>by rw [h1];exact hfz _ (by simp at hj;omega))
   rw [Nat.zero_add,h1,Nat.mul_one] at hr;obtain ⟨cur',a1,a2,a3⟩:=B8r g (m.map A0n) l.length w cur hg (by simp;omega);obtain ⟨m1,m2,m3,m4⟩:=B8c g (m.map A0n) l.length w;refine ⟨_,_,hr,.inr ⟨g,cap,cur',lo,hi',by rw [List.length_append],hbg,a1,by rw [a2];exact hmk,by rw [List.length_append];exact hroom,hcm,a2.trans hcs,?_⟩,⟨m1,m2,m3,by omega,fun k _ hk=>B0a g (m.map A0n) _ w k (fun e=>hk (by rw [e];rfl))⟩⟩;rw [List.length_append,List.map_append,<-htake];simpa using a3
  ·have holds:∀ j u,(l.map A0n)[j]?=some u->w.drew.cell? ((⟨g,0,none⟩:Addr).add j)=some u:=by
    intro j u hu;have hj:j<l.length:=by
     rcases Nat.lt_or_ge j l.length with h|h
     ·exact h
     ·rw [List.getElem?_eq_none (by simpa using h)] at hu;cases hu
    have ea:(⟨g,0,none⟩:Addr).add j=⟨g,j,none⟩:=by unfold Addr.add;split<;>simp_all
    rw [ea];show w.cell? ⟨g,j,none⟩=some u
    rw [cell_of_row w g j cur e _ hg,<-hu,<-htake];simp [List.getElem?_take,hj]
   have hold:=run_firstCells_some (P:=P) w.drew i.size l.length ⟨g,0,none⟩ l.length cap (l.map A0n) (by rw [h1];simp) holds;have hr:=run_append_grow_src (P:=P) w t tx ty e i (.int .u8 0) ht hi hz (some ⟨g,0,none⟩) l.length cap (l.map A0n) hold x m.length (m.map A0n) (by rw [h1];exact hs) (by omega) (by omega) (growslice_fits (by omega) (by rw [hb];omega));have hgr:=B7s w B e 1 l.length m.length cap (.int .u8 0) (l.map A0n) (m.map A0n) rfl (by simp) (by simp) (by unfold maxLen;omega) (by omega) hB (some g);exact ⟨_,_,hr,(OwnBs.app hgr.1).marked,hgr.2⟩
theorem B3f {P : Program} {w : World} {ops : Array Oper} {rest : List Oper} {o : Oper} {a : Act} {Q : Exit → Act → World → Prop} (hgd : o.guard = none) (s x : Operand) (t tx : TypeId)
 (ho:o.op=.call { callee:=.builtin .append,args:=#[s,x],argTypes:=#[t,tx] }) (vs vx:Value) (hs:a.eval s=vs) (hx:a.eval x=vx) {B:Nat} {e:TypeId} {l m:List UInt8}
 (happ:∀ ty,AppM P w t tx ty vs vx B e l m)
 (h:∀ v' w',B5i e w' B v' (l++m)->w.grownBy w' vs.ownBlock->wpList P ops Q rest (a.put o.dst v') w'):wpList P ops Q (o::rest) a w:=by
 obtain ⟨v',w',hr,h1,h2⟩:=happ o.type;exact Lib.wpList_append_run w hgd s x t tx ho vs vx hs hx v' w' hr (h v' w' h1 h2)
theorem D3o {P : Program} {w : World} {ops : Array Oper} {o : Oper} {a : Act} {K : Act → World → Prop} {Q : Exit → Act → World → Prop} {E : Prop} (hgd : o.guard = none) (s x : Operand) (t tx : TypeId)
 (ho:o.op=.call { callee:=.builtin .append,args:=#[s,x],argTypes:=#[t,tx] }) (vs vx:Value) (hs:a.eval s=vs) (hx:a.eval x=vx) {B:Nat} {e:TypeId} {l m:List UInt8}
 (happ:∀ ty,AppM P w t tx ty vs vx B e l m)
 (h:∀ v' w',B5i e w' B v' (l++m)->w.grownBy w' vs.ownBlock->K (a.put o.dst v') w') :
 if Region.wanted o (yielded ops a.tmps)=true then Oper.wp P o a w K Q else E:=by
 obtain ⟨v',w',hr,h1,h2⟩:=happ o.type;have hw:Region.wanted o (yielded ops a.tmps)=true:=by simp [Region.wanted,hgd]
 rw [if_pos hw];unfold Oper.wp execOp;simp only [ho,resolve,invoke,builtin,Sem.run_bind,Sem.run_pure,Result.andThen_ok,List.map_toArray,List.map_cons,List.map_nil,hs,hx,hr];exact h v' w' h1 h2
theorem B5i.grown {t : TypeId} {w0 w w' : World} {B C : Nat} {v : Value} {l : List UInt8} (hb : Below B w0 w) (hg : w.grownBy w' v.ownBlock) (hv : B5i t w C v l) (hB : B ≤ w.heap.size) (hC : B ≤ C) : Below B w0 w' :=
 hb.grown hg hB (fun k hk=>Nat.le_trans hC (hv.lt hk).1)
noncomputable def D5j (s : ByteArray) : Int := match Lib.atoiAll s.data.toList with
 | .ok v=>v
 | .range=>Lib.atoiSat s.data.toList
 | _=>0
def E5x (w : World) (g : Nat) : Prop := ∃ ev,w.cell? ⟨g,0,none⟩ = some ev ∧ (ev = .nilIface ∨ ∃ te pe,ev = .iface te pe)
theorem E5x.below {w w' : World} {g : Nat} (h : E5x w g) (hb : Below w.heap.size w w') : E5x w' g := by
 obtain ⟨ev,h1,h2⟩:=h;exact ⟨ev,(hb.cell (p:=⟨g,0,none⟩) (World.block_lt_of_cell? w _ h1)).trans h1,h2⟩
def A8d (l : List Rec) (key s : ByteArray) : ByteArray := if (A6e l key).2 = true then (A6e l key).1 else s
noncomputable def A7k (l : List Rec) (key : ByteArray) (n : Int) : Int := if (A6e l key).2 = true then D5j (A6e l key).1 else n
def A9o (c : UInt8) : Int := if c = 48 then 1 else if c = 53 then 2 else if c = 50 then 3 else if c = 49 then 4 else 0
noncomputable def A5y (l : List Rec) (t : Int) : Int × Int :=
 if (A6e l A0m).2=true then ((A7e (A6e l A0m).1.data.toList (B3v (A6e l A0m).1.data.toList)).1,(A7e (A6e l A0m).1.data.toList (B3v (A6e l A0m).1.data.toList)).2.1) else (t,0)
noncomputable def A3i (h : HeadN) (l : List Rec) (da : Option Addr) (dcap : Nat) (d : List UInt8) : Ent :=
 ⟨A8d l B1c (A2o h.px h.nm).1,A9o h.typ,A8d l B0d h.lk,⟨h.mode,A7k l B7k h.uid,A7k l B8k h.gid,A8d l A2h h.user,A8d l A3h h.group,(A5y l h.time).1,(A5y l h.time).2⟩,da,dcap,d⟩
theorem B6n {N : Nat} : ∀ {l : List Rec} (key : ByteArray),(∀ r ∈ l,r.key.size ≤ N ∧ r.value.size ≤ N) → (A6e l key).1.size ≤ N
 | [],key,_=>by simp [A6e]
 | r::t,key,h=>by
   unfold A6e;split
   ·exact (h r (by simp)).2
   ·exact B6n key (fun x hx=>h x (by simp [hx]))
theorem B9x (h : HeadN) (l : List Rec) (da da' : Option Addr) (dcap dcap' : Nat) (d : List UInt8) : A6k (A3i h l da dcap d) = A6k (A3i h l da' dcap' d) := rfl
def A2m : Ent := ⟨ByteArray.empty,0,ByteArray.empty,⟨0,0,0,ByteArray.empty,ByteArray.empty,0,0⟩,none,0,[]⟩
open Classical in
noncomputable def B3g (b : List UInt8) (n : Nat) (h : HeadN) (l : List Rec) (d : List UInt8) : Ent × Int × Int :=
 if A6k (A3i h l none 0 d)=(b.take n,0) then (A3i h l none 0 d,n,0) else (A2m,0,3)
noncomputable def A6s (b : List UInt8) : Ent × Int × Int :=
 if ¬ (A4b b).2.2.2=0 then (A2m,0,(A4b b).2.2.2)
 else if ¬ (A4b b).1.typ=120 then B3g b (b.length-(A4b b).2.2.1.length) (A4b b).1 [] (A4b b).2.1
 else if ¬ (A2r (ofL (A4b b).2.1)).2=0 then (A2m,0,(A2r (ofL (A4b b).2.1)).2)
 else if ¬ (A4b (A4b b).2.2.1).2.2.2=0 then (A2m,0,(A4b (A4b b).2.2.1).2.2.2)
 else B3g b (b.length-(A4b (A4b b).2.2.1).2.2.1.length) (A4b (A4b b).2.2.1).1 (A2r (ofL (A4b b).2.1)).1 (A4b (A4b b).2.2.1).2.1
theorem A3a {w : World} {B size n b j : Nat} {t : TypeId} {v : Value} {xs : List Value} (u : Value) (h : w.ownsRow B t size v n xs) (hne : v.ownBlock ≠ some b) : (w.setCell ⟨b,j,none⟩ u).ownsRow B t size v n xs := by
 refine ⟨h.1,?_⟩;rcases h.2 with h0|⟨g,cap,cur,rfl,hbg,hg,r⟩
 ·exact .inl h0
 ·refine .inr ⟨g,cap,cur,rfl,hbg,?_,r⟩;rw [heap_setCell_other w ⟨b,j,none⟩ g u (fun e=>hne (by rw [e];rfl))];exact hg
theorem C8c {w : World} {B size n : Nat} {t : TypeId} {v : Value} {xs : List Value} (h : w.ownsRow B t size v (n + 1) xs) : ∃ g cap,v = .slice (some ⟨g,0,none⟩) (n + 1) cap := by
 rcases h.2 with ⟨_,h0⟩|⟨g,cap,cur,rfl,_⟩
 ·omega
 ·exact ⟨g,cap,rfl⟩
structure RecSt (tR tP : TypeId) (w0 w : World) (b : Nat) (cs : Array Value) (v : Value) (l : List Rec) : Prop where
 row:w.heap[b]?=some (.cells cs tP (0,0))
 own:A1d tR w (b+1) v l
 low:w0.heap.size<=b
 bel:Below w0.heap.size w0 w
section
variable {tR tP : TypeId} {w0 w w' w4 : World} {b : Nat} {cs : Array Value} {v v4 : Value} {l : List Rec}
theorem RecSt.lt (h : RecSt tR tP w0 w b cs v l) : b < w.heap.size := (ltO h.row)
theorem RecSt.below (h : RecSt tR tP w0 w b cs v l) (hb : Below w.heap.size w w') : RecSt tR tP w0 w' b cs v l :=
 ⟨(hb.block b h.lt).trans h.row,h.own.below hb,h.low,h.bel.trans (hb.mono h.bel.size)⟩
theorem RecSt.cell (h : RecSt tR tP w0 w b cs v l) (j : Nat) : w.cell? ⟨b,j,none⟩ = cs[j]? := cell_of_row w b j cs tP (0,0) h.row
theorem RecSt.free (h : RecSt tR tP w0 w b cs v l) (j : Nat) : w.frozen? ⟨b,j,none⟩ = false := frozen_of_row w b j cs tP h.row
theorem RecSt.ne (h : RecSt tR tP w0 w b cs v l) : v.ownBlock ≠ some b := fun e => by have := (World.ownsRow.lt h.own b e).1; omega
theorem RecSt.row4 (h : RecSt tR tP w0 w b cs v l) (hg : w.grownBy w4 v.ownBlock) : w4.heap[b]? = some (.cells cs tP (0,0)) :=
 (by obtain ⟨a1,a2,a3,a4,a5⟩:=hg;exact (a5 b h.lt (fun e=>h.ne e.symm)).trans h.row)
theorem RecSt.cell4 (h : RecSt tR tP w0 w b cs v l) (hg : w.grownBy w4 v.ownBlock) (j : Nat) : w4.cell? ⟨b,j,none⟩ = cs[j]? := cell_of_row w4 b j cs tP (0,0) (h.row4 hg)
theorem RecSt.free4 (h : RecSt tR tP w0 w b cs v l) (hg : w.grownBy w4 v.ownBlock) (j : Nat) : w4.frozen? ⟨b,j,none⟩ = false := frozen_of_row w4 b j cs tP (h.row4 hg)
theorem RecSt.put (h : RecSt tR tP w0 w b cs v l) (j : Nat) (u : Value) {cs' : Array Value} (e : cs.setIfInBounds j u = cs') : RecSt tR tP w0 (w.setCell ⟨b,j,none⟩ u) b cs' v l := by
 subst e;exact ⟨heap_setCell_same w b j _ tP _ h.row,A3a _ h.own h.ne,h.low,h.bel.setCell (p:=⟨b,j,none⟩) h.low u⟩
theorem RecSt.say (h : RecSt tR tP w0 w b cs v l) (j : Nat) {r : Rec} (ho : w4.ownsRow (b + 1) tR 2 v4 (l.length + 1) (l.flatMap Rec.cl ++ [r].flatMap Rec.cl)) (hg : w.grownBy w4 v.ownBlock) {cs' : Array Value} (e : cs.setIfInBounds j v4 = cs') :
 RecSt tR tP w0 (w4.setCell ⟨b,j,none⟩ v4) b cs' v4 (l++[r]):=by
 subst e;have own4:A1d tR w4 (b+1) v4 (l++[r]):=A1d.app (m:=[r]) ho;have hne4:v4.ownBlock≠some b:=fun e=>by have:=(World.ownsRow.lt own4 b e).1;omega
 refine ⟨heap_setCell_same w4 b j _ tP _ (h.row4 hg),A3a _ own4 hne4,h.low,?_⟩;refine Below.setCell ?_ (p:=⟨b,j,none⟩) h.low v4;exact h.bel.grown hg h.bel.size (fun k hk=>by have:=(World.ownsRow.lt h.own k hk).1;have:=h.low;omega)
theorem RecSt.since {wx : World} (h : RecSt tR tP wx w b cs v l) (hb : Below w0.heap.size w0 wx) : RecSt tR tP w0 w b cs v l :=
 ⟨h.row,h.own,Nat.le_trans hb.size h.low,hb.trans (h.bel.mono hb.size)⟩
end
abbrev A2p (h : HeadN) (v : Value) : Array Value := #[.string h.nm,.string h.px,.string h.lk,.int .i64 h.mode,.int .i64 h.uid,.int .i64 h.gid,.int .i64 h.size,.int .i64 h.time,.int .u8 h.typ.toNat,.string h.user,.string h.group,v]
end Go.Creel
namespace Go.Proofs.YtaffgndickdbiaaGreatDoor
open Go.Creel Go.RowKit
theorem One_any (p n : ByteArray) (w : World) (hp : p.size ≤ maxLen) (hn : n.size ≤ maxLen) :
 Calls Tryz.prog 124 #[.string p,.string n] w fun e w'=>e=.returned (.tuple #[.string (A2o p n).1,.int .i64 (A2o p n).2])/\Below w.heap.size w w':=by
 unfold maxLen at hp hn;by_cases h:n.size=0\/100<n.size\/155<p.size
 ·have HF:=Hi (C5w h);rcases (show n.size=0\/(1<=n.size/\100<n.size)\/(1<=n.size/\n.size<=100/\155<p.size) by omega) with h1|⟨h1,h2⟩|⟨h1,h2,h3⟩
  ·have he:=A8h h1;have h1':((n.size:Int)<1):=by omega
   clear h h1;go_enter Tryz.func124,Tryz.ntmps124;go_wp2;go_ret2;exact ⟨A1c HF.out,Below.refl _ _⟩
  all_goals
   have he:=A9e (a:=n) (by omega);clear h;go_enter Tryz.func124,Tryz.ntmps124;go_wp2;go_ret2;exact ⟨A1c HF.out,Below.refl _ _⟩
 ·have h1:1<=n.size:=by omega
  have h2:n.size<=100:=by omega
  have h3:p.size<=155:=by omega
  have hen:=A9e (a:=n) (by omega);have HN:=Hi h;clear h
  have key:∀ (s:ByteArray) (w:World),B0r p n=s->s.size<=256->Calls Tryz.prog 90 #[.string s] w fun e w'=>Below w.heap.size w w'/\∃ a b e0,e=.returned (.tuple #[.string a,.string b,.int .i64 e0]) ∧
   ((e0=0/\a=p/\b=n/\Hid (A2o p n=(s,0)))\/(¬ (e0=0/\a=p/\b=n)/\Hid (A2o p n=(ByteArray.empty,3)))):=by
   intro s w hs hsz;refine (F6h s w (by unfold maxLen;omega)).mono ?_;rintro e w' ⟨rfl,hb⟩;refine ⟨hb,_,_,_,rfl,?_⟩;subst hs;by_cases hc:A4d (B0r p n)=(p,n,0)
   ·left;rw [hc];exact ⟨rfl,rfl,rfl,D5d HN.out hc⟩
   ·right;exact ⟨fun ⟨a,b,c⟩=>hc (Prod.ext b (Prod.ext c a)),D3v HN.out hc⟩
  have KEY:=Hi key;clear key;by_cases h0:p.size=0
  ·have hj:B0r p n=n:=by unfold B0r;rw [if_pos h0]
   have HJ:=Hi hj;have he:=A8h h0;have he2:(!p.toList.isEmpty)=false:=by rw [he];rfl
   clear h0 hj;go_enter Tryz.func124,Tryz.ntmps124;go_wp2_with fail
   refine (KEY.out n _ HJ.out (by omega)).mono ?_;rintro e w' ⟨hb,a,b,e0,rfl,⟨rfl,rfl,rfl,HF⟩|⟨hno,HF⟩⟩
   ·have HB:=Hi hb;clear hb;go_wp2;go_ret2;exact ⟨A1c HF.out,HB.out⟩
   ·have HB:=Hi hb;have HNO:=Hi hno;clear hb hno;by_cases c1:e0=0
    ·have d1:(e0 != 0)=false:=by simp [c1]
     by_cases c2:a=p
     ·have d2:=E6i c2;have c3:b≠n:=fun c3=>HNO.out ⟨c1,c2,c3⟩
      have d3:=C6m c3;clear c1 c2 c3;go_wp2;go_ret2;exact ⟨A1c HF.out,HB.out⟩
     ·have d2:=C6m c2;clear c1 c2;go_wp2;go_ret2;exact ⟨A1c HF.out,HB.out⟩
    ·have d1:(e0 != 0)=true:=by simpa using c1
     clear c1;go_wp2;go_ret2;exact ⟨A1c HF.out,HB.out⟩
  ·have hj:B0r p n=p++ofL [47]++n:=by unfold B0r;rw [if_neg h0]
   have HJ:=Hi hj;have he:=A9e h0;have he2:(!p.toList.isEmpty)=true:=by rw [he];rfl
   have HZ:=Hi (show (p++ofL [47]++n).size<=256 by simp [A7a];omega);clear h0 hj;go_enter Tryz.func124,Tryz.ntmps124;go_wp2_with fail
   refine (KEY.out _ _ (by exact HJ.out) (by exact HZ.out)).mono ?_;rintro e w' ⟨hb,a,b,e0,rfl,⟨rfl,rfl,rfl,HF⟩|⟨hno,HF⟩⟩
   ·have HB:=Hi hb;clear hb;go_wp2;go_ret2;exact ⟨A1c HF.out,HB.out⟩
   ·have HB:=Hi hb;have HNO:=Hi hno;clear hb hno;by_cases c1:e0=0
    ·have d1:(e0 != 0)=false:=by simp [c1]
     by_cases c2:a=p
     ·have d2:=E6i c2;have c3:b≠n:=fun c3=>HNO.out ⟨c1,c2,c3⟩
      have d3:=C6m c3;clear c1 c2 c3;go_wp2;go_ret2;exact ⟨A1c HF.out,HB.out⟩
     ·have d2:=C6m c2;clear c1 c2;go_wp2;go_ret2;exact ⟨A1c HF.out,HB.out⟩
    ·have d1:(e0 != 0)=true:=by simpa using c1
     clear c1;go_wp2;go_ret2;exact ⟨A1c HF.out,HB.out⟩
theorem E7x (p n : ByteArray) (w : World) (hp : p.size ≤ maxLen) (hn : n.size ≤ maxLen) :
 Calls Tryz.prog 56 #[.string p,.string n] w fun e w'=>e=.returned (.tuple #[.string (A2o p n).1,.int .i64 (A2o p n).2])/\Below w.heap.size w w':=by
 unfold maxLen at hp hn;by_cases h:n.size=0\/100<n.size\/155<p.size
 ·have HF:=Hi (C5w h);rcases (show n.size=0\/(1<=n.size/\100<n.size)\/(1<=n.size/\n.size<=100/\155<p.size) by omega) with h1|⟨h1,h2⟩|⟨h1,h2,h3⟩
  ·have he:=A8h h1;have h1':((n.size:Int)<1):=by omega
   clear h h1;go_enter Tryz.func56,Tryz.ntmps56;go_wp2;go_ret2;exact ⟨A1c HF.out,Below.refl _ _⟩
  all_goals
   have he:=A9e (a:=n) (by omega);clear h;go_enter Tryz.func56,Tryz.ntmps56;go_wp2;go_ret2;exact ⟨A1c HF.out,Below.refl _ _⟩
 ·have h1:1<=n.size:=by omega
  have h2:n.size<=100:=by omega
  have h3:p.size<=155:=by omega
  have hen:=A9e (a:=n) (by omega);have HN:=Hi h;clear h
  have key:∀ (s:ByteArray) (w:World),B0r p n=s->s.size<=256->Calls Tryz.prog 100 #[.string s] w fun e w'=>Below w.heap.size w w'/\∃ a b e0,e=.returned (.tuple #[.string a,.string b,.int .i64 e0]) ∧
   ((e0=0/\a=p/\b=n/\Hid (A2o p n=(s,0)))\/(¬ (e0=0/\a=p/\b=n)/\Hid (A2o p n=(ByteArray.empty,3)))):=by
   intro s w hs hsz;refine (C9k s w (by unfold maxLen;omega)).mono ?_;rintro e w' ⟨rfl,hb⟩;refine ⟨hb,_,_,_,rfl,?_⟩;subst hs;by_cases hc:A4d (B0r p n)=(p,n,0)
   ·left;rw [hc];exact ⟨rfl,rfl,rfl,D5d HN.out hc⟩
   ·right;exact ⟨fun ⟨a,b,c⟩=>hc (Prod.ext b (Prod.ext c a)),D3v HN.out hc⟩
  have KEY:=Hi key;clear key;by_cases h0:p.size=0
  ·have hj:B0r p n=n:=by unfold B0r;rw [if_pos h0]
   have HJ:=Hi hj;have he:=A8h h0;have he2:(!p.toList.isEmpty)=false:=by rw [he];rfl
   clear h0 hj;go_enter Tryz.func56,Tryz.ntmps56;go_wp2_with fail
   refine (KEY.out n _ HJ.out (by omega)).mono ?_;rintro e w' ⟨hb,a,b,e0,rfl,⟨rfl,rfl,rfl,HF⟩|⟨hno,HF⟩⟩
   ·have HB:=Hi hb;clear hb;go_wp2;go_ret2;exact ⟨A1c HF.out,HB.out⟩
   ·have HB:=Hi hb;have HNO:=Hi hno;clear hb hno;by_cases c1:e0=0
    ·have d1:(e0 != 0)=false:=by simp [c1]
     by_cases c2:a=p
     ·have d2:=E6i c2;have c3:b≠n:=fun c3=>HNO.out ⟨c1,c2,c3⟩
      have d3:=C6m c3;clear c1 c2 c3;go_wp2;go_ret2;exact ⟨A1c HF.out,HB.out⟩
     ·have d2:=C6m c2;clear c1 c2;go_wp2;go_ret2;exact ⟨A1c HF.out,HB.out⟩
    ·have d1:(e0 != 0)=true:=by simpa using c1
     clear c1;go_wp2;go_ret2;exact ⟨A1c HF.out,HB.out⟩
  ·have hj:B0r p n=p++ofL [47]++n:=by unfold B0r;rw [if_neg h0]
   have HJ:=Hi hj;have he:=A9e h0;have he2:(!p.toList.isEmpty)=true:=by rw [he];rfl
   have HZ:=Hi (show (p++ofL [47]++n).size<=256 by simp [A7a];omega);clear h0 hj;go_enter Tryz.func56,Tryz.ntmps56;go_wp2_with fail
   refine (KEY.out _ _ (by exact HJ.out) (by exact HZ.out)).mono ?_;rintro e w' ⟨hb,a,b,e0,rfl,⟨rfl,rfl,rfl,HF⟩|⟨hno,HF⟩⟩
   ·have HB:=Hi hb;clear hb;go_wp2;go_ret2;exact ⟨A1c HF.out,HB.out⟩
   ·have HB:=Hi hb;have HNO:=Hi hno;clear hb hno;by_cases c1:e0=0
    ·have d1:(e0 != 0)=false:=by simp [c1]
     by_cases c2:a=p
     ·have d2:=E6i c2;have c3:b≠n:=fun c3=>HNO.out ⟨c1,c2,c3⟩
      have d3:=C6m c3;clear c1 c2 c3;go_wp2;go_ret2;exact ⟨A1c HF.out,HB.out⟩
     ·have d2:=C6m c2;clear c1 c2;go_wp2;go_ret2;exact ⟨A1c HF.out,HB.out⟩
    ·have d1:(e0 != 0)=true:=by simpa using c1
     clear c1;go_wp2;go_ret2;exact ⟨A1c HF.out,HB.out⟩
def A6p (w : World) : Prop := E5x w 0 ∧ E5x w 1
theorem A6p.below {w w' : World} (h : A6p w) (hb : Below w.heap.size w w') : A6p w' := ⟨h.1.below hb,h.2.below hb⟩
theorem E2p (s : ByteArray) (w : World) (hs : s.size ≤ 140737488355328) (hE : A6p w) :
 Calls Tryz.prog 57 #[.string s] w fun e w'=>(∃ ev,e=.returned (.tuple #[.int .i64 (D5j s),ev]))/\Below w.heap.size w w':=by
 obtain ⟨⟨e0,h0,k0⟩,⟨e1,h1,k1⟩⟩:=hE;unfold D5j;cases h:Lib.atoiAll s.data.toList with
 | ok v =>
   refine (Tryz.strconv_Atoi_ok s (by omega) v h w).mono ?_;rintro e w' ⟨rfl,hw⟩;refine ⟨⟨_,rfl⟩,?_⟩;rcases hw with rfl|⟨t,rfl⟩
   ·exact Below.refl _ _
   ·exact B0f w _ t
 | range =>
   refine (Tryz.strconv_Atoi_range s (by omega) h e1 w h1 k1).mono ?_;rintro e w' ⟨N,rfl,_,_,hb⟩;exact ⟨⟨_,rfl⟩,hb⟩
 | _ =>
   refine (Tryz.strconv_Atoi_syntax s (by omega) (fun v e=>by rw [h] at e;cases e) (fun e=>by rw [h] at e;cases e) e0 w h0 k0).mono ?_;rintro e w' ⟨N,rfl,_,_,hb⟩;exact ⟨⟨_,rfl⟩,hb⟩
theorem D5w (key s : ByteArray) (bl : Nat) (vl : Value) (l : List Rec) (w : World) (hc : w.cell? ⟨bl,0,none⟩ = some vl) (hS : A4a maxLen 2 (F4i maxLen) w [vl] l) :
 Calls Tryz.prog 120 #[.string key,.string s,.pointer (some ⟨bl,0,none⟩)] w fun e w'=>e=.returned (.string (A8d l key s))/\Below w.heap.size w w':=by
 have HFN:=Hi (D7k (N:=maxLen) vl l key w hS);have HT:Hid (∀ p:ByteArray×Bool,A6e l key=p->A8d l key s=if p.2=true then p.1 else s):=Hi (fun p h=>by subst h;rfl);have HT2:=Hi (HT.out _ rfl);generalize A6e l key=p at *;obtain ⟨p1,p2⟩:=p;clear hS HT;cases p2 with
 | true =>
   go_enter Tryz.func120,Tryz.ntmps120;go_wp2_with fail
   refine HFN.out.mono ?_;rintro e w1 ⟨rfl,hb⟩;have HB:=Hi hb;clear hb;go_wp2;go_ret;exact ⟨by rw [HT2.out];rfl,HB.out⟩
 | false =>
   go_enter Tryz.func120,Tryz.ntmps120;go_wp2_with fail
   refine HFN.out.mono ?_;rintro e w1 ⟨rfl,hb⟩;have HB:=Hi hb;clear hb;go_wp2;go_ret;exact ⟨by rw [HT2.out];rfl,HB.out⟩
theorem F0t (key : ByteArray) (n : Int) (bl : Nat) (vl : Value) (l : List Rec) (w : World) (hc : w.cell? ⟨bl,0,none⟩ = some vl) (hS : A4a maxLen 2 (F4i maxLen) w [vl] l) (hE : A6p w) (hsz : (A6e l key).1.size ≤ 140737488355328) :
 Calls Tryz.prog 122 #[.string key,.int .i64 n,.pointer (some ⟨bl,0,none⟩)] w fun e w'=>e=.returned (.int .i64 (A7k l key n))/\Below w.heap.size w w':=by
 have HFN:=Hi (D7k (N:=maxLen) vl l key w hS);have HE:=Hi hE;have HT:Hid (∀ p:ByteArray×Bool,A6e l key=p->A7k l key n=if p.2=true then D5j p.1 else n):=Hi (fun p h=>by subst h;rfl);have HT2:=Hi (HT.out _ rfl);generalize A6e l key=p at *;obtain ⟨p1,p2⟩:=p;simp only at hsz;clear hS HT hE;cases p2 with
 | true =>
   go_enter Tryz.func122,Tryz.ntmps122;go_wp2_with fail
   refine HFN.out.mono ?_;rintro e w1 ⟨rfl,hb⟩;have HB:=Hi hb;clear hb;go_wp2_with fail
   refine (E2p p1 _ hsz (HE.out.below HB.out)).mono ?_;rintro e w2 ⟨⟨ev,rfl⟩,hb⟩;have HB2:=Hi (HB.out.trans (hb.mono HB.out.size));clear hb;go_wp2;go_ret;exact ⟨by rw [HT2.out];rfl,HB2.out⟩
 | false =>
   go_enter Tryz.func122,Tryz.ntmps122;go_wp2_with fail
   refine HFN.out.mono ?_;rintro e w1 ⟨rfl,hb⟩;have HB:=Hi hb;clear hb;go_wp2;go_ret;exact ⟨by rw [HT2.out];rfl,HB.out⟩
abbrev A7i : TypeId := 85
abbrev tPk : TypeId := 65
theorem D0k (b : Nat) (key value : ByteArray) (w0 w : World) (h : HeadN) (v : Value) (l : List Rec) (s : RecSt A7i tPk w0 w b (A2p h v) v l) (hl : l.length ≤ 100) :
 Calls Tryz.prog 89 #[.pointer (some ⟨b,0,none⟩),.string key,.string value] w fun e w'=>e=.returned (.tuple #[])/\∃ v',RecSt A7i tPk w0 w' b (A2p h v') v' (l++[⟨key,value⟩]):=by
 obtain ⟨i0,hi,hz0,hz1,hz2⟩:=info_parts B7o;have HI:=Hi (And.intro hi (And.intro hz0 (And.intro hz1 hz2)));have H:=Hi s;have HBA:=Hi ((Below.refl w.heap.size w).alloc lr (.cells #[.string key,.string value] 85));have H3:=Hi (H.out.below HBA.out);have c11:w.cell? ⟨b,11,none⟩=some v:=H.out.cell 11;have hlt:=s.lt;clear hi hz0 hz1 hz2 s;go_enter Tryz.func89,Tryz.ntmps89;go_wp2_with (at_builtin;refine A9b _ rfl (.tmp 10) (.tmp 14) 63 63 rfl _ _ rfl rfl (fun ty=>A8g _ 63 63 ty (b+1) 85 i0 _ 2 32 Tryz.underlying63 HI.out.1 HI.out.2.1 HI.out.2.2.1 HI.out.2.2.2 rfl (by decide) _ _ l.length 1 _ _ H3.out.own (D0g w _ _ _ Tryz.underlying63 ⟨key,value⟩) (by unfold maxLen;omega) (by omega) H3.out.lt) ?_;intro v4 w4 ho2 hg2 hv2;have HZ:=Hi (And.intro ho2 (And.intro hg2 hv2.2));have e1:w4.cell? ⟨b,11,none⟩=some v:=H3.out.cell4 hg2 11;have e2:=H3.out.free4 hg2 11;obtain ⟨g4,cp4,rfl⟩:=C8c ho2;clear ho2 hg2 hv2)
 go_end0
 exact ⟨rfl,_,H3.out.say (r:=⟨key,value⟩) 11 HZ.out.1 HZ.out.2.1 rfl⟩
theorem D3e (b : Nat) (key : ByteArray) (n : Int) (w0 w : World) (h : HeadN) (v : Value) (l : List Rec) (s : RecSt A7i tPk w0 w b (A2p h v) v l) (hl : l.length ≤ 99) (hn : 0 ≤ n ∧ n ≤ 1125899906842624) (hT : A7m w) :
 Calls Tryz.prog 85 #[.pointer (some ⟨b,0,none⟩),.string key,.int .i64 n,.int .i64 8] w fun e w'=>e=.returned (.int .i64 (B1i n 2097151))/\∃ v',RecSt A7i tPk w0 w' b (A2p h v') v' (l++B6a key n 2097151):=by
 have H:=Hi s;have HT:=Hi hT;have HMO:=Hi (B7i 8 w);rw [show A7o 8=(2097151,0) by rfl] at HMO;simp only at HMO;have h0:¬ n<0:=by omega
 clear s hT;by_cases hb:2097151<n
 ·have HF:=Hi (E0r (k:=key) hb);go_enter Tryz.func85,Tryz.ntmps85;go_wp2_with fail
  refine HMO.out.mono ?_;rintro e w' ⟨rfl,rfl⟩;go_wp2_with fail
  refine (A5r n _ (by unfold i64;omega) HT.out).mono ?_;rintro e w2 ⟨rfl,hb2⟩;have H2:=Hi (H.out.below hb2);clear hb2;go_wp2_with fail
  refine (D0k b key _ w0 _ h v l H2.out (by omega)).mono ?_;rintro e w3 ⟨rfl,v3,s3⟩;have H3:=Hi s3;clear s3;go_wp2;go_ret;rw [HF.out.1,HF.out.2];exact ⟨rfl,_,H3.out⟩
 ·have HF:=Hi (F0b (k:=key) hb);go_enter Tryz.func85,Tryz.ntmps85;go_wp2_with fail
  refine HMO.out.mono ?_;rintro e w' ⟨rfl,rfl⟩;go_wp2;go_ret;rw [HF.out.1,HF.out.2,List.append_nil];exact ⟨rfl,_,H.out⟩
theorem D9j (b : Nat) (key t i : ByteArray) (m : Nat) (M : Int) (w0 w : World) (h : HeadN) (v : Value) (l : List Rec) (s : RecSt A7i tPk w0 w b (A2p h v) v l) (hl : l.length ≤ 99) (hM : M = m) (hm : m ≤ 1000) (ht : t.size ≤ 1000) :
 Calls Tryz.prog 86 #[.pointer (some ⟨b,0,none⟩),.string key,.string t,.int .i64 M,.string i] w fun e w'=>e=.returned (.string (A1q t m i))/\∃ v',RecSt A7i tPk w0 w' b (A2p h v') v' (l++A5j key t m):=by
 have H:=Hi s;clear s;by_cases hb:m<t.size
 ·have HF:=Hi (D5p (k:=key) (i:=i) hb);have hd:M<(t.size:Int):=by omega
  clear hb;go_enter Tryz.func86,Tryz.ntmps86;go_wp2_with fail
  refine (D0k b key _ w0 _ h v l H.out (by omega)).mono ?_;rintro e w3 ⟨rfl,v3,s3⟩;have H3:=Hi s3;clear s3;go_wp2;go_ret;rw [HF.out.1,HF.out.2];exact ⟨rfl,_,H3.out⟩
 ·have HF:=Hi (E5b (k:=key) (i:=i) hb);have hd:¬ M<(t.size:Int):=by omega
  clear hb;go_enter Tryz.func86,Tryz.ntmps86;go_wp2;go_ret;rw [HF.out.1,HF.out.2,List.append_nil];exact ⟨rfl,_,H.out⟩
end Go.Proofs.YtaffgndickdbiaaGreatDoor
