/- A part of the proof. -/
import Derived.Test.YtaffgndickdbiaaGreatDoorV18
import Derived.Maps.RangeRun
import Derived.Maps.RangeWalk
set_option linter.unusedVariables false
set_option linter.unusedSimpArgs false
set_option linter.unusedSectionVars false
namespace Go.Creel
open Go.RowKit
section
variable {κ : Type} [DecidableEq κ]
def C4y (mk : κ → Value) (w : World) (b : Nat) (l : List (κ × Value)) : Prop :=
 ∃ es clock,w.heap[b]?=some (.map es clock)/\es.toList.map (fun e=>(e.key,e.val))=l.map (fun p=>(mk p.1,p.2))/\(es.toList.map (·.born)).Nodup/\∀ e∈es.toList,e.born<clock
theorem C4y.lt {mk : κ → Value} {w : World} {b : Nat} {l : List (κ × Value)} (h : C4y mk w b l) : b < w.heap.size := by
 obtain ⟨es,clock,hb,_⟩:=h;exact (ltO hb)
theorem C4y.below {mk : κ → Value} {w w' : World} {b : Nat} {l : List (κ × Value)} {B : Nat} (h : C4y mk w b l) (hb : Below B w w') (hB : b < B) : C4y mk w' b l := by
 obtain ⟨es,clock,h1,h2⟩:=h;exact ⟨es,clock,(hb.block b hB).trans h1,h2⟩
theorem C4y.made (mk : κ → Value) (w : World) : C4y mk (w.alloc (.map #[] 0)) w.heap.size ([] : List (κ × Value)) := ⟨#[],0,heap_alloc_new w _,rfl,List.nodup_nil,by simp⟩
theorem E5k (k : κ) (v : Value) : ∀ (l : List (κ × Value)),(l.map (·.1)).Nodup → ((A6f k v l).map (·.1)).Nodup ∧ ∀ x,x ∈ (A6f k v l).map (·.1) ↔ x = k ∨ x ∈ l.map (·.1)
 | [],_=>by simp [A6f]
 | p::r,h=>by
   simp only [List.map_cons,List.nodup_cons] at h;obtain ⟨ih1,ih2⟩:=E5k k v r h.2;unfold A6f;by_cases hk:k=p.1
   ·rw [if_pos hk];refine ⟨by simp only [List.map_cons,List.nodup_cons];exact ⟨by rw [hk];exact h.1,h.2⟩,fun x=>?_⟩;simp only [List.map_cons,List.mem_cons];rw [<-hk];constructor
    ·rintro (h|h);exact .inl h;exact .inr (.inr h)
    ·rintro (h|h|h);exact .inl h;exact .inl h;exact .inr h
   ·rw [if_neg hk];refine ⟨by simp only [List.map_cons,List.nodup_cons];exact ⟨fun hm=>by
     rcases (ih2 _).1 hm with e|e
     ·exact hk e.symm
     ·exact h.1 e,ih1⟩,fun x=>?_⟩
    simp only [List.map_cons,List.mem_cons,ih2];constructor
    ·rintro (h|h|h);exact .inr (.inl h);exact .inl h;exact .inr (.inr h)
    ·rintro (h|h|h);exact .inr (.inl h);exact .inl h;exact .inr (.inr h)
variable {P : Program} {w : World} {mk : κ → Value} {kind : TypeDesc} {b : Nat} {l : List (κ × Value)}
theorem E9c {f : MapEntry → MapEntry} (hf : ∀ e,(f e).born = e.born) (es : Array MapEntry) (j : Nat) : (es.modify j f).toList.map (·.born) = es.toList.map (·.born) := by
 rw [Array.toList_modify];apply List.ext_getElem?;intro i;simp only [List.getElem?_map,List.getElem?_modify];cases h:es.toList[i]?<;>simp [h]
 split<;>simp [hf]
theorem C4y.put (h : C4y mk w b l) (K : KeyOn kind mk) {t k e : TypeId} (ht : P.underlying t = some (.map k e)) (hk : P.underlying k = some kind) (a : κ) (u : Value) :
 ∃ w',(Instr.mapUpdate t (.map (some b)) (mk a) u).run P w=.ok () w'/\C4y mk w' b (A6f a u l)/\w.grownBy w' (some b)/\w'.heap.size=w.heap.size:=by
 obtain ⟨es,clock,hb,hes,hnd,hold⟩:=h;have hlt:b<w.heap.size:=(ltO hb);rcases B5b K a u es.toList l 0 hes with ⟨h1,h2,h3⟩|⟨j,v',e',h1,h2,h3,h4,h5⟩
 ·refine ⟨_,by
   unfold Instr.mapUpdate Instr.findKey;simp only [Sem.run_bind,run_underlying ht,Result.andThen_ok,MapKept.run_getObj_map hb,A0i.checked K hk,run_underlying hk,h2,Sem.run_pure];exact MapKept.run_setObj_map _ hb,?_,?_,by simp⟩
  ·refine ⟨_,_,by simp [hlt];exact ⟨rfl,rfl⟩,?_,?_,?_⟩
   ·rw [h3];simp [hes]
   ·rw [Array.toList_push,List.map_append,List.nodup_append];refine ⟨hnd,by simp,?_⟩;intro x hx y hy;obtain ⟨q,hq,rfl⟩:=List.mem_map.1 hx;simp at hy;have:=hold q hq;omega
   ·intro x hx;simp at hx;rcases hx with hx|rfl
    ·have:=hold x (by simpa using hx);omega
    ·show clock<clock+1
     omega
  ·exact ⟨rfl,rfl,rfl,by simp,fun i _ hi=>by
    simp only [Array.getElem?_setIfInBounds];rw [if_neg (fun e=>hi (by rw [e]))]⟩
 ·have hej:es[j]?=some e':=by simpa using h3
  refine ⟨_,by
   unfold Instr.mapUpdate Instr.findKey Instr.keyThatStays;simp only [Sem.run_bind,run_underlying ht,Result.andThen_ok,MapKept.run_getObj_map hb,A0i.checked K hk,run_underlying hk,h2,Sem.run_pure,Nat.zero_add,hej,Option.map_some,Option.getD_some,h4,K.bits,if_true];exact MapKept.run_setObj_map _ hb,?_,?_,by simp⟩
  ·have hbn:=E9c (f:=fun e=>{ e with key:=mk a,val:=u }) (fun _=>rfl) es j;refine ⟨_,_,by simp [hlt];exact ⟨rfl,rfl⟩,?_,by rw [hbn];exact hnd,?_⟩
   ·rw [<-h5];simp [Array.toList_modify]
   ·intro x hx;have:x.born∈(es.modify j (fun e=>{ e with key:=mk a,val:=u })).toList.map (·.born):=List.mem_map.2 ⟨x,hx,rfl⟩;rw [hbn] at this;obtain ⟨y,hy,e⟩:=List.mem_map.1 this;rw [<-e];exact hold y hy
  ·exact ⟨rfl,rfl,rfl,by simp,fun i _ hi=>by
    simp only [Array.getElem?_setIfInBounds];rw [if_neg (fun e=>hi (by rw [e]))]⟩
def A4w (mk : κ → Value) (w : World) (r bm : Nat) (l left : List (κ × Value)) : Prop :=
 r≠bm/\(l.map (·.1)).Nodup/\(∀ p∈left,p∈l)/\∃ es clock seen,w.heap[bm]?=some (.map es clock)/\es.toList.map (fun e=>(e.key,e.val))=l.map (fun p=>(mk p.1,p.2))/\(es.toList.map (·.born)).Nodup/\(∀ e∈es.toList,e.born<clock) ∧
  w.heap[r]?=some (.mapIter (some bm) clock seen clock)/\(leftOf es seen).toList.map (fun e=>(e.key,e.val))=left.map (fun p=>(mk p.1,p.2))
theorem A4w.lt {r bm : Nat} {left : List (κ × Value)} (h : A4w mk w r bm l left) : r < w.heap.size := by
 obtain ⟨_,_,_,es,clock,seen,_,_,_,_,hr,_⟩:=h;exact (ltO hr)
theorem A4w.below {w' : World} {r bm B : Nat} {left : List (κ × Value)} (h : A4w mk w r bm l left) (hb : Below B w w') (hB : bm < B) (hr : r < B) : A4w mk w' r bm l left := by
 obtain ⟨h1,h2,h3,es,clock,seen,h4,h5,h6,h7,h8,h9⟩:=h;exact ⟨h1,h2,h3,es,clock,seen,(hb.block _ hB).trans h4,h5,h6,h7,(hb.block _ hr).trans h8,h9⟩
theorem A4w.left_eq {r bm : Nat} {left : List (κ × Value)} (h : A4w mk w r bm l left) : w.rangeLeft bm r = left.length := by
 obtain ⟨_,_,_,es,clock,seen,hb,_,_,_,hr,hl⟩:=h;simp only [World.rangeLeft,hb,hr];have:=congrArg List.length hl;simpa using this
theorem A4w.fewer {left : List (κ × Value)} {p : κ × Value} (hp : p ∈ left) : (left.filter (fun q => !decide (q.1 = p.1))).length < left.length := by
 induction left with
 | nil=>simp at hp
 | cons a t ih =>
   have hle:∀ t:List (κ×Value),(t.filter (fun q => !decide (q.1=p.1))).length<=t.length:=fun t=>List.length_filter_le _ t
   rcases List.mem_cons.1 hp with rfl|h
   ·have h1:=hle t;simp only [List.filter_cons,decide_true,Bool.not_true,Bool.false_eq_true,if_false,List.length_cons];omega
   ·have h1:=ih h;simp only [List.filter_cons];split<;>simp only [List.length_cons]<;>omega
theorem C4y.range (h : C4y mk w b l) (hn : (l.map (·.1)).Nodup) {t k e : TypeId} (ht : P.underlying t = some (.map k e)) :
 ∃ w',(Instr.range t (.map (some b))).run P w=.ok (.pointer (some ⟨w.heap.size,0,none⟩)) w'/\A4w mk w' w.heap.size b l l/\w.grownBy w' none/\w'.heap.size=w.heap.size+1:=by
 have hlt:=h.lt;obtain ⟨es,clock,hb,hes,hnd,hold⟩:=h;refine ⟨_,run_range_map w t k e b es clock ht hb,⟨by omega,hn,fun _ h=>h,es,clock,#[],((MapKept.heap_alloc w _).2 b hlt).trans hb,hes,hnd,hold,(MapKept.heap_alloc w _).1,?_⟩,World.grownBy_alloc w _ none,by simp⟩;rw [show leftOf es #[]=es from by unfold leftOf;exact Array.filter_eq_self.2 (by simp)];exact hes
theorem C7u (K : KeyOn kind mk) : ∀ (es : List MapEntry) (left l : List (κ × Value)) (seen : Array Nat) (L : List MapEntry),(∀ x ∈ es,x ∈ L) → (L.map (·.born)).Nodup → (∀ p ∈ left,p ∈ l) → (l.map (·.1)).Nodup → L.map (fun e => (e.key,e.val)) = l.map (fun p => (mk p.1,p.2)) →
 es.map (fun e=>(e.key,e.val))=left.map (fun p=>(mk p.1,p.2))->∀ e∈L,∀ p∈l,e.key=mk p.1 →
 (es.filter (fun x => !(x.born==e.born))).map (fun e=>(e.key,e.val))=(left.filter (fun q => !decide (q.1=p.1))).map (fun p=>(mk p.1,p.2))
 | [],[],_,_,_,_,_,_,_,_,_,_,_,_,_,_=>rfl
 | [],p::left,_,_,_,_,_,_,_,_,h,_,_,_,_,_=>by simp at h
 | e::es,[],_,_,_,_,_,_,_,_,h,_,_,_,_,_=>by simp at h
 | x::es,q::left,l,seen,L,hL,hnd,hl,hnk,hLl,h,e,he,p,hp,hek=>by
   have inj:∀ a b:κ,mk a=mk b->a=b:=fun a b hab=>by
    have h1:=K.same a b;have h2:=K.same b b;rw [hab,h2] at h1;simpa using h1
   simp only [List.map_cons,List.cons.injEq,Prod.mk.injEq] at h;obtain ⟨⟨hk,hv⟩,hr⟩:=h;have ih:=C7u K es left l seen L (fun y hy=>hL y (by simp [hy])) hnd (fun y hy=>hl y (by simp [hy])) hnk hLl hr e he p hp hek;have hiff:(x.born==e.born)=decide (q.1=p.1):=by
    by_cases hb:x.born=e.born
    ·have hxe:=born_inj hnd (hL x (by simp)) he hb;subst hxe;have:=inj _ _ (hk.symm.trans hek);simp [this]
    ·have hne:q.1≠p.1:=fun hqp=>by
      have hkk:x.key=e.key:=by rw [hk,hek,hqp]
      have hKn:(L.map (·.key)).Nodup:=by
       have:L.map (·.key)=(l.map (·.1)).map mk:=by
        have h2:=congrArg (List.map Prod.fst) hLl;simpa [List.map_map,Function.comp_def] using h2
       rw [this];exact List.Pairwise.map mk (fun a b hab hc=>hab (inj _ _ hc)) hnk
      have hfind:∀ (L:List MapEntry),(L.map (·.key)).Nodup->∀ x∈L,∀ e∈L,x.key=e.key->x=e:=by
       intro L;induction L with
       | nil=>intro _ x hx;simp at hx
       | cons y t iht =>
         intro hn x hx e he hxe;simp only [List.map_cons,List.nodup_cons] at hn;rcases List.mem_cons.1 hx with h1|h1
         ·rcases List.mem_cons.1 he with h2|h2
          ·rw [h1,h2]
          ·exact absurd (List.mem_map.2 ⟨e,h2,by rw [<-hxe,h1]⟩) hn.1
         ·rcases List.mem_cons.1 he with h2|h2
          ·exact absurd (List.mem_map.2 ⟨x,h1,by rw [hxe,h2]⟩) hn.1
          ·exact iht hn.2 x h1 e h2 hxe
      exact hb (by rw [hfind L hKn x (hL x (by simp)) e he hkk])
     simp [hb,hne]
   simp only [List.filter_cons,hiff];split<;>simp [ih,hk,hv]
theorem C6e (es : Array MapEntry) (seen : Array Nat) (b : Nat) : (leftOf es (seen.push b)).toList = (leftOf es seen).toList.filter (fun x => !(x.born == b)) := by
 unfold leftOf;simp only [Array.toList_filter,List.filter_filter];congr 1;funext x;rw [contains_push];cases seen.contains x.born<;>cases (x.born==b)<;>rfl
theorem A4w.next {r bm : Nat} {left : List (κ × Value)} (h : A4w mk w r bm l left) (K : KeyOn kind mk) (ty : TypeId) :
 (left=[]/\(Instr.next (.pointer (some ⟨r,0,none⟩)) false ty).run P w=.ok (.tuple #[.bool false]) w) ∨
 ∃ p∈left,∃ w',(Instr.next (.pointer (some ⟨r,0,none⟩)) false ty).run P w=.ok (.tuple #[.bool true,mk p.1,p.2]) w'/\A4w mk w' r bm l (left.filter (fun q => !decide (q.1=p.1))) ∧
  w.grownBy w' (some r)/\w'.heap.size=w.heap.size/\(Instr.entry (.pointer (some ⟨r,0,none⟩))).run P w'=.ok (.tuple #[mk p.1,p.2]) w':=by
 obtain ⟨hne,hnk,hll,es,clock,seen,hb,hes,hnd,hold,hr,hleft⟩:=h;rcases run_next_at (P:=P) w ty r bm clock clock seen es clock hr hb hold lr with ⟨h0,hrun⟩|⟨e,he,w1,hal,hrun⟩
 ·have:leftOf es seen=#[]:=Array.eq_empty_of_size_eq_zero h0;rw [this] at hleft;exact Or.inl ⟨by simpa using hleft.symm,hrun⟩
 ·obtain ⟨hem,hes'⟩:=mem_left he;have hin:(e.key,e.val)∈left.map (fun p=>(mk p.1,p.2)):=by rw [<-hleft];exact List.mem_map.2 ⟨e,he,rfl⟩
  obtain ⟨p,hp,hpe⟩:=List.mem_map.1 hin;have hr1:w1.heap[r]?=some (.mapIter (some bm) clock seen clock):=by rcases hal with rfl|rfl<;>exact hr
  have hb1:w1.heap[bm]?=some (.map es clock):=by rcases hal with rfl|rfl<;>exact hb
  have hset:=MapKept.heap_set (o':=.mapIter (some bm) clock (seen.push e.born) clock) hr1;have hb':(ChangeMaps.setBlock w1 r (.mapIter (some bm) clock (seen.push e.born) clock)).heap[bm]?=some (.map es clock):=(hset.2 bm (fun e1=>hne e1.symm)).trans hb1;have hk:e.key=mk p.1:=(congrArg Prod.fst hpe).symm;have hv:e.val=p.2:=(congrArg Prod.snd hpe).symm;have hent:=run_entry_at (P:=P) _ r bm clock seen es clock e hset.1 hb' hem hnd;rw [hk,hv] at hrun hent;refine Or.inr ⟨p,hp,_,hrun,⟨hne,hnk,fun q hq=>hll q (List.mem_filter.1 hq).1,es,clock,seen.push e.born,hb',hes,hnd,hold,hset.1,?_⟩,?_,?_,hent⟩
  ·rw [C6e];exact C7u K _ left l seen es.toList (fun x hx=>(mem_left hx).1) hnd hll hnk hes hleft e hem p (hll p hp) hk
  ·rcases hal with rfl|rfl<;>exact ⟨rfl,rfl,rfl,by simp [ChangeMaps.setBlock],fun i _ hi=>hset.2 i (fun e1=>hi (by rw [e1]))⟩
  ·rcases hal with rfl|rfl<;>simp [ChangeMaps.setBlock]
end
theorem D2f {κ : Type} [DecidableEq κ] {P : Program} (w : World) {ops : Array Oper} {rest : List Oper} {o : Oper} {a : Act} {Q : Exit → Act → World → Prop}
 (hg:o.guard=none) (m:Operand) (t:TypeId) (hop:o.op=Op.range t m) {mk:κ->Value} (k e:TypeId) (ht:P.underlying t=some (.map k e)) (b:Nat) (l:List (κ×Value)) (hn:(l.map (·.1)).Nodup)
 (hm:a.eval m=.map (some b)) (hown:C4y mk w b l)
 (hK:∀ w',A4w mk w' w.heap.size b l l->w.grownBy w' none->w'.heap.size=w.heap.size+1->wpList P ops Q rest (a.put o.dst (.pointer (some ⟨w.heap.size,0,none⟩))) w') :
 wpList P ops Q (o::rest) a w:=by
 refine wpList_plain hg fun K' hK'=>?_
 obtain ⟨w',hrun,r1,r2,r3⟩:=hown.range hn ht;unfold Oper.wp;simp [execOp,hop,hm,hrun,Result.andThen];exact hK' _ _ (hK w' r1 r2 r3)
theorem D7m {κ : Type} [DecidableEq κ] {P : Program} (w : World) {ops : Array Oper} {rest : List Oper} {o : Oper} {a : Act} {Q : Exit → Act → World → Prop}
 (hg:o.guard=none) (it:Operand) (hop:o.op=Op.next it false) {mk:κ->Value} {kind:TypeDesc} (K:KeyOn kind mk) (b r:Nat) (l left:List (κ×Value))
 (hit:a.eval it=.pointer (some ⟨r,0,none⟩)) (h:A4w mk w r b l left)
 (hDone:left=[]->wpList P ops Q rest (a.put o.dst (.tuple #[.bool false])) w)
 (hMore:∀ p∈left,∀ (w':World),A4w mk w' r b l (left.filter (fun q => !decide (q.1=p.1)))->w.grownBy w' (some r)->w'.heap.size=w.heap.size->(Instr.entry (.pointer (some ⟨r,0,none⟩))).run P w'=.ok (.tuple #[mk p.1,p.2]) w'->wpList P ops Q rest (a.put o.dst (.tuple #[.bool true,mk p.1,p.2])) w') :
 wpList P ops Q (o::rest) a w:=by
 refine wpList_plain hg fun K' hK'=>?_
 unfold Oper.wp;rcases h.next (P:=P) K o.type with ⟨h0,hrun⟩|⟨p,hp,w',hrun,hi,hgr,hsz,hen⟩
 ·simp [execOp,hop,hit,hrun,Result.andThen];exact hK' _ _ (hDone h0)
 ·simp [execOp,hop,hit,hrun,Result.andThen];exact hK' _ _ (hMore p hp w' hi hgr hsz hen)
def E0q (o : Option ByteArray) (s : ByteArray) : ByteArray := o.getD s
noncomputable def numF (o : Option ByteArray) (n : Int) : Int := match o with
 | some v=>D5j v
 | none=>n
noncomputable def F9m (o : Option ByteArray) (t : Int) : Int × Int := match o with
 | some v=>((A7e v.data.toList (B3v v.data.toList)).1,(A7e v.data.toList (B3v v.data.toList)).2.1)
 | none=>(t,0)
noncomputable def A0y (h : HeadN) (da : Option Addr) (dcap : Nat) (d : List UInt8) (f : ByteArray → Option ByteArray) : Ent :=
 ⟨E0q (f B1c) (A2o h.px h.nm).1,A9o h.typ,E0q (f B0d) h.lk,⟨h.mode,numF (f B7k) h.uid,numF (f B8k) h.gid,E0q (f A2h) h.user,E0q (f A3h) h.group,(F9m (f A0m) h.time).1,(F9m (f A0m) h.time).2⟩,da,dcap,d⟩
def E9z (l : List Rec) (key : ByteArray) : Option ByteArray := if (A6e l key).2 = true then some (A6e l key).1 else none
theorem F0n (l : List Rec) (key s : ByteArray) : A8d l key s = E0q (E9z l key) s := by
 unfold A8d E0q E9z;split<;>rfl
theorem num_say (l : List Rec) (key : ByteArray) (n : Int) : A7k l key n = numF (E9z l key) n := by
 unfold A7k numF E9z;split<;>rfl
theorem F8m (l : List Rec) (t : Int) : A5y l t = F9m (E9z l A0m) t := by
 unfold A5y F9m E9z;split<;>rfl
theorem E6p (h : HeadN) (l : List Rec) (da : Option Addr) (dcap : Nat) (d : List UInt8) : A3i h l da dcap d = A0y h da dcap d (E9z l) := by
 unfold A3i A0y;simp only [F0n,num_say,F8m]
def B7a (l : List Rec) : List (ByteArray × Value) := l.foldl (fun m r => A6f r.key (.string r.value) m) []
theorem D0q {l : List Rec} {k : Nat} (h : k < l.length) : B7a (l.take (k + 1)) = A6f (rk l k).key (.string (rk l k).value) (B7a (l.take k)) := by
 rw [F4a h];simp [B7a,List.foldl_append]
theorem E0c : ∀ (l : List Rec) (m : List (ByteArray × Value)),(m.map (·.1)).Nodup → ((l.foldl (fun m r => A6f r.key (.string r.value) m) m).map (·.1)).Nodup ∧
 ∀ p∈l.foldl (fun m r=>A6f r.key (.string r.value) m) m,p∈m\/∃ r∈l,p=(r.key,.string r.value)
 | [],m,h=>⟨h,fun p hp => .inl hp⟩
 | r::t,m,h=>by
   obtain ⟨h1,h2⟩:=E0c t (A6f r.key (.string r.value) m) (E5k _ _ m h).1;refine ⟨h1,fun p hp=>?_⟩;rcases h2 p hp with e|⟨q,hq,e⟩
   ·have hput:∀ (m:List (ByteArray×Value)),p∈A6f r.key (.string r.value) m->p∈m\/p=(r.key,.string r.value):=by
     intro m;induction m with
     | nil=>intro h;simp [A6f] at h;exact .inr h
     | cons a s ih =>
       intro h;unfold A6f at h;split at h
       ·rcases List.mem_cons.1 h with h|h
        ·exact .inr h
        ·exact .inl (List.mem_cons.2 (.inr h))
       ·rcases List.mem_cons.1 h with h|h
        ·exact .inl (List.mem_cons.2 (.inl h))
        ·rcases ih h with h|h
         ·exact .inl (List.mem_cons.2 (.inr h))
         ·exact .inr h
    rcases hput m e with e|e
    ·exact .inl e
    ·exact .inr ⟨r,by simp,e⟩
   ·exact .inr ⟨q,by simp [hq],e⟩
theorem D1q (l : List Rec) : ((B7a l).map (·.1)).Nodup := (E0c l [] List.nodup_nil).1
theorem F9n {l : List Rec} {p : ByteArray × Value} (h : p ∈ B7a l) : ∃ r ∈ l,p = (r.key,.string r.value) := by
 rcases (E0c l [] List.nodup_nil).2 p h with e|e
 ·simp at e
 ·exact e
theorem C0n {key : ByteArray} : ∀ {l : List Rec},(∀ r ∈ l,r.key ≠ key) → (A6e l key).2 = false
 | [],_=>rfl
 | r::t,h=>by
   unfold A6e;rw [if_neg (h r (by simp))];exact C0n (fun x hx=>h x (by simp [hx]))
theorem C1f (key : ByteArray) : ∀ (l : List Rec) (m : List (ByteArray × Value)),(l.map (·.key)).Nodup →
 A2v key (l.foldl (fun m r=>A6f r.key (.string r.value) m) m)=if (A6e l key).2=true then some (.string (A6e l key).1) else A2v key m
 | [],m,_=>by simp [A6e]
 | r::t,m,h=>by
   simp only [List.map_cons,List.nodup_cons] at h;rw [List.foldl_cons,C1f key t _ h.2,B4h];by_cases hk:r.key=key
   ·have hn:=C0n (l:=t) (key:=key) (fun x hx he=>h.1 (List.mem_map.2 ⟨x,hx,by rw [he,hk]⟩));rw [hn];simp [A6e,hk]
   ·have h1:A6e (r::t) key=A6e t key:=by
     conv=>lhs;unfold A6e
     rw [if_neg hk]
    have h2:¬ key=r.key:=fun e=>hk e.symm
    rw [h1];simp only [if_neg h2]
theorem E2v {l : List Rec} (h : (l.map (·.key)).Nodup) (key : ByteArray) : A2v key (B7a l) = (E9z l key).map (fun v => .string v) := by
 unfold B7a;rw [C1f key l [] h];unfold E9z;split<;>simp [A2v]
def strV : Value → ByteArray
 | .string s=>s
 | _=>ByteArray.empty
open Classical in
noncomputable def B2p (m left : List (ByteArray × Value)) (key : ByteArray) : Option ByteArray := if key ∈ left.map (fun q : ByteArray × Value => q.1) then none else (A2v key m).map strV
theorem F8g {m : List (ByteArray × Value)} : ∀ {p : ByteArray × Value},p ∈ m → (m.map (·.1)).Nodup → A2v p.1 m = some p.2 := by
 induction m with
 | nil=>intro p h;simp at h
 | cons a t ih =>
   intro p h hn;simp only [List.map_cons,List.nodup_cons] at hn;unfold A2v;rcases List.mem_cons.1 h with rfl|h
   ·rw [if_pos rfl]
   ·rw [if_neg (fun e=>hn.1 (by rw [<-e];exact List.mem_map.2 ⟨p,h,rfl⟩))];exact ih h hn.2
theorem F7g {m : List (ByteArray × Value)} {key : ByteArray} (h : key ∉ m.map (·.1)) : A2v key m = none := by
 induction m with
 | nil=>rfl
 | cons a t ih =>
   simp only [List.map_cons,List.mem_cons,not_or] at h;unfold A2v;rw [if_neg h.1];exact ih h.2
theorem E5u (m : List (ByteArray × Value)) (key : ByteArray) : B2p m m key = none := by
 unfold B2p;split
 ·rfl
 ·rename_i h
  rw [F7g h];rfl
theorem F3q {l : List Rec} (h : (l.map (·.key)).Nodup) (key : ByteArray) : B2p (B7a l) [] key = E9z l key := by
 unfold B2p;rw [if_neg (by simp),E2v h];cases E9z l key<;>rfl
theorem F7f {m left : List (ByteArray × Value)} {p : ByteArray × Value} (hp : p ∈ left) (hm : ∀ q ∈ left,q ∈ m) (hn : (m.map (·.1)).Nodup) (key : ByteArray) :
 B2p m (left.filter (fun q => !decide (q.1=p.1))) key=if key=p.1 then some (strV p.2) else B2p m left key:=by
 unfold B2p;by_cases hk:key=p.1
 ·subst hk;rw [if_neg (by simp),if_pos rfl,F8g (hm p hp) hn];rfl
 ·rw [if_neg hk];have:(key∈(left.filter (fun q => !decide (q.1=p.1))).map (fun q:ByteArray×Value=>q.1))↔key∈left.map (fun q:ByteArray×Value=>q.1):=by
   simp only [List.mem_map,List.mem_filter];constructor
   ·rintro ⟨q,⟨h1,_⟩,h2⟩;exact ⟨q,h1,h2⟩
   ·rintro ⟨q,h1,h2⟩;exact ⟨q,⟨h1,by simp;rw [h2];exact hk⟩,h2⟩
  by_cases hin:key∈left.map (fun q:ByteArray×Value=>q.1)
  ·rw [if_pos (this.2 hin),if_pos hin]
  ·rw [if_neg (fun h=>hin (this.1 h)),if_neg hin]
noncomputable def A6y (x : Ent) (k v : ByteArray) : Ent :=
 if k=B8k then { x with mt:={ x.mt with gid:=D5j v } }
 else if k=A3h then { x with mt:={ x.mt with group:=v } }
 else if k=B0d then { x with target:=v }
 else if k=A0m then { x with mt:={ x.mt with second:=(A7e v.data.toList (B3v v.data.toList)).1,nano:=(A7e v.data.toList (B3v v.data.toList)).2.1 } }
 else if k=B1c then { x with path:=v }
 else if k=B7k then { x with mt:={ x.mt with uid:=D5j v } }
 else if k=A2h then { x with mt:={ x.mt with user:=v } }
 else x
theorem say_put (h : HeadN) (da : Option Addr) (dcap : Nat) (d : List UInt8) (f : ByteArray → Option ByteArray) (k v : ByteArray) :
 A0y h da dcap d (fun key=>if key=k then some v else f key)=A6y (A0y h da dcap d f) k v:=by
 by_cases h1:k=B8k
 ·subst h1;rfl
 ·by_cases h2:k=A3h
  ·subst h2;rfl
  ·by_cases h3:k=B0d
   ·subst h3;rfl
   ·by_cases h4:k=A0m
    ·subst h4;rfl
    ·by_cases h5:k=B1c
     ·subst h5;rfl
     ·by_cases h6:k=B7k
      ·subst h6;rfl
      ·by_cases h7:k=A2h
       ·subst h7;rfl
       ·unfold A6y;rw [if_neg h1,if_neg h2,if_neg h3,if_neg h4,if_neg h5,if_neg h6,if_neg h7];unfold A0y;simp only [if_neg (Ne.symm h1),if_neg (Ne.symm h2),if_neg (Ne.symm h3),if_neg (Ne.symm h4),if_neg (Ne.symm h5),if_neg (Ne.symm h6),if_neg (Ne.symm h7)]
theorem E3a {h : HeadN} {da : Option Addr} {dcap : Nat} {d : List UInt8} {f g : ByteArray → Option ByteArray} (e : ∀ k,f k = g k) : A0y h da dcap d f = A0y h da dcap d g := by
 rw [show f=g from funext e]
theorem F3n {h : HeadN} {da : Option Addr} {dcap : Nat} {d : List UInt8} {m left : List (ByteArray × Value)} {p : ByteArray × Value} (hp : p ∈ left) (hm : ∀ q ∈ left,q ∈ m) (hn : (m.map (·.1)).Nodup) :
 A0y h da dcap d (B2p m (left.filter (fun q => !decide (q.1=p.1))))=A6y (A0y h da dcap d (B2p m left)) p.1 (strV p.2):=by
 rw [<-say_put];exact E3a (F7f hp hm hn)
theorem A4w.keep {κ : Type} [DecidableEq κ] {mk : κ → Value} {w w' : World} {r bm : Nat} {l left : List (κ × Value)} {row : Option Nat} (h : A4w mk w r bm l left) (hg : w.grownBy w' row) (h1 : row ≠ some bm) (h2 : row ≠ some r) : A4w mk w' r bm l left := by
 obtain ⟨a1,a2,a3,es,clock,seen,h4,h5,h6,h7,h8,h9⟩:=h;exact ⟨a1,a2,a3,es,clock,seen,(hg.block _ (ltO h4) (fun e=>h1 e.symm)).trans h4,h5,h6,h7,(hg.block _ (ltO h8) (fun e=>h2 e.symm)).trans h8,h9⟩
theorem C4y.keep {κ : Type} [DecidableEq κ] {mk : κ → Value} {w w' : World} {b : Nat} {l : List (κ × Value)} {row : Option Nat} (h : C4y mk w b l) (hg : w.grownBy w' row) (h1 : row ≠ some b) : C4y mk w' b l := by
 obtain ⟨es,clock,h4,h5⟩:=h;exact ⟨es,clock,(hg.block _ (ltO h4) (fun e=>h1 e.symm)).trans h4,h5⟩
theorem A5z {w w' : World} (row : Option Nat) (h : Below w.heap.size w w') : w.grownBy w' row := ⟨h.os,h.tape,h.output,h.size,fun i hi _ => h.block i hi⟩
theorem B2h {B : Nat} {w0 w w' : World} {row : Option Nat} (h : Below B w0 w) (hg : w.grownBy w' row) (hB : B ≤ w.heap.size) (hr : ∀ k,row = some k → B ≤ k) : Below B w0 w' :=
 ⟨hg.os.trans h.os,hg.tape.trans h.tape,hg.output.trans h.output,Nat.le_trans h.size hg.size,fun k hk=>(hg.block k (by omega) (fun e=>by have:=hr k e.symm;omega)).trans (h.block k hk)⟩
def E7z (k : Nat) : Int := if k = 0 then 63 else if k = 1 then 48 else if k = 2 then 53 else if k = 3 then 50 else 49
def C8u (c : UInt8) : Nat → Int
 | 0=>0
 | k+1=>if E7z k=(c.toNat:Int) then k else C8u c k
theorem F1e (c : UInt8) : C8u c 5 = A9o c := by
 have hn:∀ k:UInt8,((k.toNat:Int)=(c.toNat:Int))↔c=k:=fun k=>⟨fun e=>(UInt8.toNat_inj.1 (by exact_mod_cast e)).symm,fun e=>by rw [e]⟩
 have h0:E7z 0=((63:UInt8).toNat:Int):=rfl;have h1:E7z 1=((48:UInt8).toNat:Int):=rfl;have h2:E7z 2=((53:UInt8).toNat:Int):=rfl;have h3:E7z 3=((50:UInt8).toNat:Int):=rfl;have h4:E7z 4=((49:UInt8).toNat:Int):=rfl;unfold A9o;simp only [C8u,h0,h1,h2,h3,h4,hn];by_cases e0:c=48
 ·subst e0;decide
 ·by_cases e1:c=53
  ·subst e1;decide
  ·by_cases e2:c=50
   ·subst e2;decide
   ·by_cases e3:c=49
    ·subst e3;decide
    ·simp [e0,e1,e2,e3]
theorem B4b {b : List UInt8} {h : HeadN} {d r : List UInt8} (hb : A4b b = (h,d,r,0)) : 512 + (A3f d).length + r.length = b.length ∧ r = b.drop (512 + (A3f d).length) := by
 have h1:=D8d (b:=b) (by rw [hb]);rw [hb] at h1;exact h1
def A8m (l : List Ent) (k : Nat) (s : ByteArray) : Ent := if A4c (l.take k) s < k then ek l (A4c (l.take k) s) else entZ
theorem B3e {l : List Ent} {k : Nat} {s : ByteArray} (h : A4c (l.take k) s < k) : A8m l k s = ek l (A4c (l.take k) s) := if_pos h
theorem C4d {l : List Ent} {k : Nat} {s : ByteArray} (h : ¬ A4c (l.take k) s < k) : A8m l k s = entZ := if_neg h
def B6i (l : List Ent) (i : Nat) : Prop := 0 < i → B7b (A8a (ek l (i - 1)).path) (A8a (ek l i).path) = -1
def C1b (l : List Ent) (i : Nat) : Prop := (A2f (ek l i).path).size ≠ 0 → (A8m l i (A2f (ek l i).path)).kind = 2
def A4y (l : List Ent) (i : Nat) : Prop := (ek l i).kind = 4 → (A8m l i (ek l i).target).kind = 1 ∧ (A8m l i (ek l i).target).mt = (ek l i).mt
open Classical in
noncomputable def A3t (l : List Ent) (i : Nat) : Int :=
 if ¬ A1b (ek l i)=0 then A1b (ek l i) else if ¬ B6i l i then 6 else if ¬ C1b l i then 10 else if ¬ A4y l i then 11 else 0
open Classical in
noncomputable def A0b (l : List Ent) : Int :=
 if 40<l.length then 1 else if h:∃ k,k<l.length/\A3t l k≠0/\∀ j,j<k->A3t l j=0 then A3t l (Classical.choose h) else 0
theorem B2a {l : List Ent} (h : 40 < l.length) : A0b l = 1 := by unfold A0b; rw [if_pos h]
theorem B8t {l : List Ent} {k : Nat} {e : Int} (hl : l.length ≤ 40) (hk : k < l.length) (hz : ∀ j,j < k → A3t l j = 0) (he : A3t l k = e) (hne : e ≠ 0) : A0b l = e := by
 have hex:∃ k,k<l.length/\A3t l k≠0/\∀ j,j<k->A3t l j=0:=⟨k,hk,by rw [he];exact hne,hz⟩;unfold A0b;rw [if_neg (by omega),dif_pos hex];obtain ⟨h1,h2,h3⟩:=Classical.choose_spec hex;have:Classical.choose hex=k:=by
  rcases Nat.lt_trichotomy (Classical.choose hex) k with h|h|h
  ·exact absurd (hz _ h) h2
  ·exact h
  ·exact absurd (h3 _ h) (by rw [he];exact hne)
 rw [this,he]
theorem B7t {l : List Ent} (hl : l.length ≤ 40) (hz : ∀ j,j < l.length → A3t l j = 0) : A0b l = 0 := by
 unfold A0b;rw [if_neg (by omega),dif_neg (by rintro ⟨k,h1,h2,_⟩;exact h2 (hz k h1))]
theorem A7j {l : List Ent} (h : A0b l = 0) : l.length ≤ 40 ∧ ∀ k,k < l.length → A3t l k = 0 := by
 have hl:l.length<=40:=by
  rcases Nat.lt_or_ge 40 l.length with e|e
  ·rw [B2a e] at h;cases h
  ·exact e
 refine ⟨hl,?_⟩;have key:∀ k,k<=l.length->∀ j,j<k->A3t l j=0:=by
  intro k;induction k with
  | zero=>intro _ j hj;omega
  | succ k ih =>
    intro hk j hj;by_cases e:j=k
    ·subst e;refine Classical.byContradiction fun hne=>?_
     exact hne ((B8t hl (by omega) (ih (by omega)) rfl hne).symm.trans h)
    ·exact ih (by omega) j (by omega)
 exact key _ lr
theorem C5r {l : List Ent} {i : Nat} (h : ¬ A1b (ek l i) = 0) : A3t l i = A1b (ek l i) := by unfold A3t; rw [if_pos h]
theorem C4r {l : List Ent} {i : Nat} (h : A1b (ek l i) = 0) (h1 : ¬ B6i l i) : A3t l i = 6 := by unfold A3t; rw [if_neg (by simpa using h),if_pos h1]
theorem D9f {l : List Ent} {i : Nat} (h : A1b (ek l i) = 0) (h1 : B6i l i) (h2 : ¬ C1b l i) : A3t l i = 10 := by unfold A3t; rw [if_neg (by simpa using h),if_neg (by simpa using h1),if_pos h2]
theorem C3h {l : List Ent} {i : Nat} (h : A1b (ek l i) = 0) (h1 : B6i l i) (h2 : C1b l i) (h3 : ¬ A4y l i) : A3t l i = 11 := by unfold A3t; rw [if_neg (by simpa using h),if_neg (by simpa using h1),if_neg (by simpa using h2),if_pos h3]
theorem E5i {l : List Ent} {i : Nat} (h : A1b (ek l i) = 0) (h1 : B6i l i) (h2 : C1b l i) (h3 : A4y l i) : A3t l i = 0 := by unfold A3t; rw [if_neg (by simpa using h),if_neg (by simpa using h1),if_neg (by simpa using h2),if_neg (by simpa using h3)]
theorem A5v {l : List Ent} {i : Nat} (h : A3t l i = 0) : A1b (ek l i) = 0 ∧ B6i l i := by
 have h0:A1b (ek l i)=0:=Classical.byContradiction fun e=>e ((C5r e).symm.trans h)
 refine ⟨h0,Classical.byContradiction fun e=>?_⟩;rw [C4r h0 e] at h;cases h
theorem C5e {x : Ent} (h : A1b x = 0) : x.path.size ≤ 400 := by
 unfold A1b A7h at h;have hp:A8b x.path=0:=Classical.byContradiction fun e=>by rw [if_pos e] at h;exact e h
 refine Classical.byContradiction fun e=>?_
 have:=A0o (s:=x.path) (.inr (by omega));rw [hp] at this;cases this
theorem E7r (X Y : List ByteArray) : B7b X Y = -1 ∨ B7b X Y = 0 ∨ B7b X Y = 1 := by
 induction X generalizing Y with
 | nil=>cases Y<;>simp [B7b]
 | cons x X ih =>
   cases Y with
   | nil=>simp [B7b]
   | cons y Y =>
     unfold B7b;split
     ·exact ih Y
     ·rcases A9s x y with ⟨_,h⟩|⟨_,_,h⟩|⟨_,_,h⟩<;>simp [h]
open Classical in
noncomputable def B9s (l : List Ent) (k : Nat) : Bool := decide (¬ B6i l k)
theorem C7t {l : List Ent} {k : Nat} (h : ¬ B6i l k) : B9s l k = true := by unfold B9s; simp [h]
theorem C1d {l : List Ent} {k : Nat} (h : B6i l k) : B9s l k = false := by unfold B9s; simp [h]
open Classical in
noncomputable def E5p (l : List Ent) (k : Nat) : Bool := decide (C1b l k)
theorem C4g {l : List Ent} {k : Nat} (h : C1b l k) : E5p l k = true := by unfold E5p; simp [h]
theorem C1q {l : List Ent} {k : Nat} (h : ¬ C1b l k) : E5p l k = false := by unfold E5p; simp [h]
open Classical in
noncomputable def C8i (l : List Ent) (k : Nat) : Bool := decide (A4y l k)
theorem B6k {l : List Ent} {k : Nat} (h : A4y l k) : C8i l k = true := by unfold C8i; simp [h]
theorem B4g {l : List Ent} {k : Nat} (h : ¬ A4y l k) : C8i l k = false := by unfold C8i; simp [h]
theorem D6r (l : List Ent) : B9s l 0 = false := C1d (fun h => absurd h (by omega))
theorem E4j (l : List Ent) (q : Nat) : decide (0 ≤ B7b (A8a (ek l q).path) (A8a (ek l (q + 1)).path)) = B9s l (q + 1) := by
 by_cases h:B7b (A8a (ek l q).path) (A8a (ek l (q+1)).path) = -1
 ·rw [C1d (fun _=>by simpa using h),h];rfl
 ·rw [C7t (fun e=>h (by simpa using e (by omega)))];rcases E7r (A8a (ek l q).path) (A8a (ek l (q+1)).path) with e|e|e
  ·exact absurd e h
  ·rw [e];rfl
  ·rw [e];rfl
theorem D1f {l : List Ent} {k : Nat} (hz : ∀ j,j < k → A3t l j = 0) (h : A3t l k = 0) : ∀ j,j < k + 1 → A3t l j = 0 := fun j hj => by
 by_cases e:j=k
 ·rw [e];exact h
 ·exact hz j (by omega)
theorem E3s {x y : Meta} (h0 : x.mode = y.mode) (h1 : x.uid = y.uid) (h2 : x.gid = y.gid) (h3 : x.user.toList = y.user.toList) (h4 : x.group.toList = y.group.toList) (h5 : x.second = y.second) (h6 : x.nano = y.nano) : x = y := by
 obtain ⟨a,b,c,d,e,f,g⟩:=x;obtain ⟨a',b',c',d',e',f',g'⟩:=y;simp only at *;rw [h0,h1,h2,toList_inj h3,toList_inj h4,h5,h6]
theorem C3u {x y : Meta} (h : x ≠ y) : (¬ x.mode = y.mode) ∨ (x.mode = y.mode ∧ ¬ x.uid = y.uid) ∨ (x.mode = y.mode ∧ x.uid = y.uid ∧ ¬ x.gid = y.gid) ∨ (x.mode = y.mode ∧ x.uid = y.uid ∧ x.gid = y.gid ∧ ¬ x.user.toList = y.user.toList) ∨
 (x.mode=y.mode/\x.uid=y.uid/\x.gid=y.gid/\x.user.toList=y.user.toList/\¬ x.group.toList=y.group.toList)\/(x.mode=y.mode/\x.uid=y.uid/\x.gid=y.gid/\x.user.toList=y.user.toList/\x.group.toList=y.group.toList/\¬ x.second=y.second) ∨
 (x.mode=y.mode/\x.uid=y.uid/\x.gid=y.gid/\x.user.toList=y.user.toList/\x.group.toList=y.group.toList/\x.second=y.second/\¬ x.nano=y.nano):=by
 by_cases h0:x.mode=y.mode
 ·by_cases h1:x.uid=y.uid
  ·by_cases h2:x.gid=y.gid
   ·by_cases h3:x.user.toList=y.user.toList
    ·by_cases h4:x.group.toList=y.group.toList
     ·by_cases h5:x.second=y.second
      ·by_cases h6:x.nano=y.nano
       ·exact absurd (E3s h0 h1 h2 h3 h4 h5 h6) h
       ·simp [h0,h1,h2,h3,h4,h5,h6]
      ·simp [h0,h1,h2,h3,h4,h5]
     ·simp [h0,h1,h2,h3,h4]
    ·simp [h0,h1,h2,h3]
   ·simp [h0,h1,h2]
  ·simp [h0,h1]
 ·simp [h0]
theorem E6v (a : Option Addr) : a.map (·.add 0) = a := by cases a <;> simp [Addr.add]
theorem A2w {N : Nat} {w : World} {a : Option Addr} {n cap i : Nat} {l : List UInt8} (h : A4a N 1 A1e w [.slice a n cap] l) (hi : i ≤ l.length) : A4a N 1 A1e w [.slice a i cap] (l.take i) := by
 obtain ⟨a',cap',hv,h1,h2,h3,h4,h5⟩:=h;simp only [List.cons.injEq,Value.slice.injEq,and_true] at hv;obtain ⟨rfl,rfl,rfl⟩:=hv;have hl:(l.take i).length=i:=by rw [List.length_take];omega
 refine ⟨a,cap,by rw [hl],by omega,h2,by omega,h4,fun hp=>?_⟩;obtain ⟨b,off,e,hc⟩:=h5 (by omega);refine ⟨b,off,e,fun k hk=>?_⟩;obtain ⟨c,hcl,hcc,hE⟩:=hc k (by omega);exact ⟨c,hcl,hcc,by rw [List.getElem_take];exact hE⟩
theorem A0p {N : Nat} {w : World} {a : Option Addr} {n cap i : Nat} {l : List UInt8} (h : A4a N 1 A1e w [.slice a n cap] l) (hi : i ≤ l.length) : A4a N 1 A1e w [sliced a i n cap 1] (l.drop i) := by
 obtain ⟨a',cap',hv,h1,h2,h3,h4,h5⟩:=h;simp only [List.cons.injEq,Value.slice.injEq,and_true] at hv;obtain ⟨rfl,rfl,rfl⟩:=hv;have hl:(l.drop i).length=l.length-i:=List.length_drop;unfold sliced;refine ⟨if cap=i then a else a.map (·.add (i*1)),cap-i,by rw [hl],by omega,by omega,by omega,fun h=>?_,fun hp=>?_⟩
 ·split at h
  ·have:=h4 h;omega
  ·cases ha:a with
   | none=>have:=h4 ha;omega
   | some x=>rw [ha] at h;cases h
 ·obtain ⟨b,off,e,hc⟩:=h5 (by omega);refine ⟨b,off+i*1,?_,fun k hk=>?_⟩
  ·rw [if_neg (by omega),e];simp only [Option.map_some,Addr.add];by_cases h0:i=0<;>simp [h0]
  ·obtain ⟨c,hcl,hcc,hE⟩:=hc (i+k) (by omega);refine ⟨c,hcl,fun j hj=>?_,by rw [List.getElem_drop];exact hE⟩;rw [<-hcc j hj];congr 2;omega
theorem A0f {N : Nat} {w : World} {v : Value} {l : List UInt8} (h : A4a N 1 A1e w [v] l) : ∃ a cap,v = .slice a l.length cap ∧ l.length ≤ cap := by
 obtain ⟨a,cap,hv,h1,_⟩:=h;exact ⟨a,cap,by simpa using hv,h1⟩
end Go.Creel
namespace Go.Proofs.YtaffgndickdbiaaGreatDoor
open Go.Creel Go.RowKit
theorem B9f (w : World) (a : Option Addr) (n cap i : Nat) (h : i ≤ n) (hc : n ≤ cap) : (Instr.slice 24 (.slice a n cap) none (some (.int .i64 i)) none).run Tryz.prog w = .ok (.slice a i cap) w := by
 rw [run_slice_h w 24 a n cap (by kernel_rfl) .i64 i (by omega) (by omega)];have hs:(sizeOf (Tryz.prog.elem 24)).run Tryz.prog w=.ok 1 w:=by kernel_rfl
 rw [hs];simp only [Result.andThen,sliced,Int.toNat_natCast,Nat.zero_mul,E6v,ite_self,Nat.sub_zero]
theorem B5a (w : World) (a : Option Addr) (n cap i : Nat) (h : i ≤ n) (hc : n ≤ cap) : (Instr.slice 24 (.slice a n cap) (some (.int .i64 i)) none none).run Tryz.prog w = .ok (sliced a i n cap 1) w := by
 rw [run_slice_l w 24 a n cap (by kernel_rfl) .i64 i (by omega) (by omega)];have hs:(sizeOf (Tryz.prog.elem 24)).run Tryz.prog w=.ok 1 w:=by kernel_rfl
 rw [hs];simp only [Result.andThen,Int.toNat_natCast]
end Go.Proofs.YtaffgndickdbiaaGreatDoor
