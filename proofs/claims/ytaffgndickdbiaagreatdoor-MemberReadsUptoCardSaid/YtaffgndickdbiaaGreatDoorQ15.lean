/-
  Texts: Map, MapIter, KindMap, TimeL.
-/
import Derived.MapKept
import Derived.Maps.OwnSet
import Derived.Maps.RangeRun
import Derived.Maps.RangeWalk
import Derived.Test.YtaffgndickdbiaaGreatDoorQ14
set_option linter.unusedVariables false
set_option linter.unusedSimpArgs false
set_option linter.unusedSectionVars false
namespace Go.Creel
open Go.RowKit
structure KeyOn {κ : Type} [DecidableEq κ] (kind : TypeDesc) (mk : κ → Value) : Prop where
 same:∀ a b,Instr.sameNow kind (mk a) (mk b)=some (decide (a=b))
 bits:∀ a,Instr.sameBits 10000 (mk a) (mk a)=true
 check:∀ {P:Program} {t:TypeId} (w:World) (a:κ),P.underlying t=some kind->(Instr.checkKey false 10000 t (mk a)).run P w = .ok () w
 checkE:∀ {P:Program} {t:TypeId} (w:World) (a:κ),P.underlying t=some kind->(Instr.checkKey true 10000 t (mk a)).run P w = .ok () w
theorem checkKey_succ (b : Bool) (t : TypeId) (v : Value) : Instr.checkKey b 10000 t v = Instr.checkKey b (9999 + 1) t v := rfl
theorem bab (a b : ByteArray) : (a == b) = decide (a = b) := by
 have h:(a==b)=(a.data==b.data):=rfl
 rw [h,Bool.eq_iff_iff,beq_iff_eq,decide_eq_true_iff]
 exact ⟨fun h=>ByteArray.ext h,fun h=>by rw [h]⟩
theorem keyOn_str : KeyOn .string (fun s : ByteArray => Value.string s) where
 same a b:=by simp [Instr.sameNow,bab]
 bits a:=by simp [Instr.sameBits,bab]
 check w a h:=by rw [checkKey_succ];unfold Instr.checkKey;simp [run_underlying h,Result.andThen]
 checkE w a h:=by rw [checkKey_succ];unfold Instr.checkKey;simp [run_underlying h,Result.andThen]
section
variable {κ : Type} [DecidableEq κ]
def assoc (k : κ) : List (κ × Value) → Option Value
 | []=>none
 | p::r=>if k=p.1 then some p.2 else assoc k r
def assocPut (k : κ) (v : Value) : List (κ × Value) → List (κ × Value)
 | []=>[(k,v)]
 | p::r=>if k=p.1 then (k,v)::r else p::assocPut k v r
theorem assoc_put (k k' : κ) (v : Value) : ∀ l,assoc k' (assocPut k v l) = if k' = k then some v else assoc k' l
 | []=>by simp [assocPut,assoc]
 | p::r=>by
   have ih:=assoc_put k k' v r
   unfold assocPut
   by_cases h:k=p.1
   ·rw [if_pos h]
    unfold assoc
    by_cases h2:k'=k
    ·simp [h2]
    ·rw [if_neg h2,if_neg h2,if_neg (by rw [<-h];exact h2)]
   ·rw [if_neg h]
    unfold assoc
    by_cases h2:k'=p.1
    ·rw [if_pos h2,if_pos h2,if_neg (by rw [h2];exact fun e=>h e.symm)]
    ·rw [if_neg h2,if_neg h2,ih]
def MapIs (mk : κ → Value) (w : World) (b : Nat) (l : List (κ × Value)) : Prop :=
 ∃ es clock,w.heap[b]?=some (.map es clock)/\es.toList.map (fun e=>(e.key,e.val))=l.map (fun p=>(mk p.1,p.2))
theorem MapIs.lt {mk : κ → Value} {w : World} {b : Nat} {l : List (κ × Value)} (h : MapIs mk w b l) : b < w.heap.size := by
 obtain ⟨es,clock,hb,_⟩:=h
 exact (Array.getElem?_eq_some_iff.1 hb).1
theorem MapIs.below {mk : κ → Value} {w w' : World} {b : Nat} {l : List (κ × Value)} {B : Nat} (h : MapIs mk w b l) (hb : Below B w w') (hB : b < B) : MapIs mk w' b l := by
 obtain ⟨es,clock,h1,h2⟩:=h
 exact ⟨es,clock,(hb.block b hB).trans h1,h2⟩
theorem MapIs.of_heap {mk : κ → Value} {w w' : World} {b : Nat} {l : List (κ × Value)} (h : MapIs mk w b l) (hb : w'.heap[b]? = w.heap[b]?) : MapIs mk w' b l := by
 obtain ⟨es,clock,h1,h2⟩:=h
 exact ⟨es,clock,hb.trans h1,h2⟩
theorem MapIs.made (mk : κ → Value) (w : World) : MapIs mk (w.alloc (.map #[] 0)) w.heap.size ([] : List (κ × Value)) := ⟨#[],0,heap_alloc_new w _,rfl⟩
theorem findNow_spec {kind : TypeDesc} {mk : κ → Value} (K : KeyOn kind mk) (k : κ) (u : Value) : ∀ (es : List MapEntry) (l : List (κ × Value)) (i : Nat),es.map (fun e => (e.key,e.val)) = l.map (fun p => (mk p.1,p.2)) →
 (assoc k l=none/\Instr.findNow kind (mk k) es i=some none/\assocPut k u l=l++[(k,u)]) ∨
 ∃ j v e,assoc k l=some v/\Instr.findNow kind (mk k) es i=some (some (i+j,v))/\es[j]?=some e/\e.key=mk k/\(es.modify j (fun e=>{ e with key:=mk k,val:=u })).map (fun e=>(e.key,e.val))=(assocPut k u l).map (fun p=>(mk p.1,p.2))
 | [],[],_,_ => .inl ⟨rfl,rfl,rfl⟩
 | [],p::l,_,h=>by simp at h
 | e::es,[],_,h=>by simp at h
 | e::es,p::l,i,h=>by
   simp only [List.map_cons,List.cons.injEq,Prod.mk.injEq] at h
   obtain ⟨⟨hk,hv⟩,hr⟩:=h
   have hs:=K.same k p.1
   by_cases hkp:k=p.1
   ·right
    refine ⟨0,p.2,e,by simp [assoc,hkp],?_,rfl,by rw [hk,hkp],?_⟩
    ·unfold Instr.findNow
     rw [hk,hs,hkp]
     simp [hv]
    ·simp [assocPut,hkp,hr]
   ·have hf:Instr.findNow kind (mk k) (e::es) i=Instr.findNow kind (mk k) es (i+1):=by
     conv=>lhs;unfold Instr.findNow
     rw [hk,hs]
     simp [hkp]
    rcases findNow_spec K k u es l (i+1) hr with ⟨h1,h2,h3⟩|⟨j,v,e',h1,h2,h3,h4,h5⟩
    ·left
     exact ⟨by simp [assoc,hkp,h1],by rw [hf,h2],by simp [assocPut,hkp,h3]⟩
    ·right
     refine ⟨j+1,v,e',by simp [assoc,hkp,h1],by rw [hf,h2];congr 3;omega,by simpa using h3,h4,?_⟩
     simp [assocPut,hkp,h5,hk,hv]
variable {P : Program} {w : World} {mk : κ → Value} {kind : TypeDesc} {b : Nat} {l : List (κ × Value)}
theorem MapIs.checked (K : KeyOn kind mk) {k : TypeId} (hk : P.underlying k = some kind) (c : Bool) (a : κ) : (Instr.checkKey c 10000 k (mk a)).run P w = .ok () w := by
 cases c
 ·exact K.check w a hk
 ·exact K.checkE w a hk
theorem MapIs.look_some (h : MapIs mk w b l) (K : KeyOn kind mk) {t k e : TypeId} (ht : P.underlying t = some (.map k e)) (hk : P.underlying k = some kind) {a : κ} {v : Value} (ha : assoc a l = some v) (ok : Bool) :
 (Instr.lookup t (.map (some b)) (mk a) ok).run P w = .ok (if ok then .tuple #[v,.bool true] else v) w:=by
 obtain ⟨es,clock,hb,hes⟩:=h
 rcases findNow_spec K a undef es.toList l 0 hes with ⟨h1,_⟩|⟨j,v',e',h1,h2,_⟩
 ·rw [h1] at ha;cases ha
 ·rw [h1] at ha
  cases ha
  unfold Instr.lookup Instr.findKey
  simp only [Sem.run_bind,run_underlying ht,Result.andThen_ok,MapKept.run_getObj_map hb,MapIs.checked K hk,run_underlying hk,h2,Sem.run_pure]
theorem MapIs.look_none (h : MapIs mk w b l) (K : KeyOn kind mk) {t k e : TypeId} (ht : P.underlying t = some (.map k e)) (hk : P.underlying k = some kind) {a : κ} {z : Value} (ha : assoc a l = none) (hz : (zeroValue e).run P w = .ok z w) (ok : Bool) :
 (Instr.lookup t (.map (some b)) (mk a) ok).run P w = .ok (if ok then .tuple #[z,.bool false] else z) w:=by
 obtain ⟨es,clock,hb,hes⟩:=h
 rcases findNow_spec K a undef es.toList l 0 hes with ⟨h1,h2,_⟩|⟨j,v',e',h1,h2,_⟩
 ·unfold Instr.lookup Instr.findKey
  simp only [Sem.run_bind,run_underlying ht,Result.andThen_ok,MapKept.run_getObj_map hb,MapIs.checked K hk,run_underlying hk,h2,Sem.run_pure,hz]
 ·rw [h1] at ha;cases ha
theorem MapIs.put (h : MapIs mk w b l) (K : KeyOn kind mk) {t k e : TypeId} (ht : P.underlying t = some (.map k e)) (hk : P.underlying k = some kind) (a : κ) (u : Value) :
 ∃ w',(Instr.mapUpdate t (.map (some b)) (mk a) u).run P w = .ok () w'/\MapIs mk w' b (assocPut a u l)/\w.grownBy w' (some b):=by
 obtain ⟨es,clock,hb,hes⟩:=h
 have hlt:b<w.heap.size:=(Array.getElem?_eq_some_iff.1 hb).1
 rcases findNow_spec K a u es.toList l 0 hes with ⟨h1,h2,h3⟩|⟨j,v',e',h1,h2,h3,h4,h5⟩
 ·refine ⟨_,by
   unfold Instr.mapUpdate Instr.findKey
   simp only [Sem.run_bind,run_underlying ht,Result.andThen_ok,MapKept.run_getObj_map hb,MapIs.checked K hk,run_underlying hk,h2,Sem.run_pure]
   exact MapKept.run_setObj_map _ hb,?_,?_⟩
  ·refine ⟨_,_,by simp [hlt];exact ⟨rfl,rfl⟩,?_⟩
   rw [h3]
   simp [hes]
  ·exact ⟨rfl,rfl,rfl,by simp,fun i _ hi=>by
    simp only [Array.getElem?_setIfInBounds]
    rw [if_neg (fun e=>hi (by rw [e]))]⟩
 ·have hej:es[j]?=some e':=by simpa using h3
  refine ⟨_,by
   unfold Instr.mapUpdate Instr.findKey Instr.keyThatStays
   simp only [Sem.run_bind,run_underlying ht,Result.andThen_ok,MapKept.run_getObj_map hb,MapIs.checked K hk,run_underlying hk,h2,Sem.run_pure,Nat.zero_add,hej,Option.map_some,Option.getD_some,h4,K.bits,if_true]
   exact MapKept.run_setObj_map _ hb,?_,?_⟩
  ·refine ⟨_,_,by simp [hlt];exact ⟨rfl,rfl⟩,?_⟩
   rw [<-h5]
   simp [Array.toList_modify]
  ·exact ⟨rfl,rfl,rfl,by simp,fun i _ hi=>by
    simp only [Array.getElem?_setIfInBounds]
    rw [if_neg (fun e=>hi (by rw [e]))]⟩
end
theorem map_put_new {κ : Type} [DecidableEq κ] {P : Program} {kind : TypeDesc} {mk : κ → Value} (K : KeyOn kind mk) {t k e : TypeId} (ht : P.underlying t = some (.map k e)) (hk : P.underlying k = some kind)
 (es:Array MapEntry) (clock:Nat) (a:κ) (u:Value) (hn:Instr.findNow kind (mk a) es.toList 0=some none) (W:World) :
 (Instr.mapUpdate t (.map (some W.heap.size)) (mk a) u).run P (W.alloc (.map es clock)) = .ok () (W.alloc (.map (es.push { key:=mk a,val:=u,born:=clock }) (clock+1))):=by
 have hb:(W.alloc (.map es clock)).heap[W.heap.size]?=some (.map es clock):=heap_alloc_new W _
 unfold Instr.mapUpdate Instr.findKey
 simp only [Sem.run_bind,run_underlying ht,Result.andThen_ok,MapKept.run_getObj_map hb,MapIs.checked K hk,run_underlying hk,hn,Sem.run_pure]
 rw [MapKept.run_setObj_map _ hb]
 congr 1
 simp only [World.alloc]
 congr 1
 apply Array.ext_getElem?
 intro i
 simp only [Array.getElem?_setIfInBounds,Array.getElem?_push,Array.size_push]
 by_cases hi:W.heap.size=i
 ·subst hi;simp
 ·rw [if_neg hi,if_neg (fun e=>hi e.symm),if_neg (fun e=>hi e.symm)]
open Go.RowKit
section
variable {κ : Type} [DecidableEq κ]
def MapB (mk : κ → Value) (w : World) (b : Nat) (l : List (κ × Value)) : Prop :=
 ∃ es clock,w.heap[b]?=some (.map es clock)/\es.toList.map (fun e=>(e.key,e.val))=l.map (fun p=>(mk p.1,p.2))/\(es.toList.map (·.born)).Nodup/\∀ e∈es.toList,e.born<clock
theorem MapB.lt {mk : κ → Value} {w : World} {b : Nat} {l : List (κ × Value)} (h : MapB mk w b l) : b < w.heap.size := by
 obtain ⟨es,clock,hb,_⟩:=h
 exact (Array.getElem?_eq_some_iff.1 hb).1
theorem MapB.below {mk : κ → Value} {w w' : World} {b : Nat} {l : List (κ × Value)} {B : Nat} (h : MapB mk w b l) (hb : Below B w w') (hB : b < B) : MapB mk w' b l := by
 obtain ⟨es,clock,h1,h2⟩:=h
 exact ⟨es,clock,(hb.block b hB).trans h1,h2⟩
theorem MapB.made (mk : κ → Value) (w : World) : MapB mk (w.alloc (.map #[] 0)) w.heap.size ([] : List (κ × Value)) := ⟨#[],0,heap_alloc_new w _,rfl,List.nodup_nil,by simp⟩
theorem keys_put (k : κ) (v : Value) : ∀ (l : List (κ × Value)),(l.map (·.1)).Nodup → ((assocPut k v l).map (·.1)).Nodup ∧ ∀ x,x ∈ (assocPut k v l).map (·.1) ↔ x = k ∨ x ∈ l.map (·.1)
 | [],_=>by simp [assocPut]
 | p::r,h=>by
   simp only [List.map_cons,List.nodup_cons] at h
   obtain ⟨ih1,ih2⟩:=keys_put k v r h.2
   unfold assocPut
   by_cases hk:k=p.1
   ·rw [if_pos hk]
    refine ⟨by simp only [List.map_cons,List.nodup_cons];exact ⟨by rw [hk];exact h.1,h.2⟩,fun x=>?_⟩
    simp only [List.map_cons,List.mem_cons]
    rw [<-hk]
    constructor
    ·rintro (h|h);exact .inl h;exact .inr (.inr h)
    ·rintro (h|h|h);exact .inl h;exact .inl h;exact .inr h
   ·rw [if_neg hk]
    refine ⟨by simp only [List.map_cons,List.nodup_cons];exact ⟨fun hm=>by
     rcases (ih2 _).1 hm with e|e
     ·exact hk e.symm
     ·exact h.1 e,ih1⟩,fun x=>?_⟩
    simp only [List.map_cons,List.mem_cons,ih2]
    constructor
    ·rintro (h|h|h);exact .inr (.inl h);exact .inl h;exact .inr (.inr h)
    ·rintro (h|h|h);exact .inr (.inl h);exact .inl h;exact .inr (.inr h)
variable {P : Program} {w : World} {mk : κ → Value} {kind : TypeDesc} {b : Nat} {l : List (κ × Value)}
theorem modify_born {f : MapEntry → MapEntry} (hf : ∀ e,(f e).born = e.born) (es : Array MapEntry) (j : Nat) : (es.modify j f).toList.map (·.born) = es.toList.map (·.born) := by
 rw [Array.toList_modify]
 apply List.ext_getElem?
 intro i
 simp only [List.getElem?_map,List.getElem?_modify]
 cases h:es.toList[i]?<;>simp [h]
 split<;>simp [hf]
theorem MapB.put (h : MapB mk w b l) (K : KeyOn kind mk) {t k e : TypeId} (ht : P.underlying t = some (.map k e)) (hk : P.underlying k = some kind) (a : κ) (u : Value) :
 ∃ w',(Instr.mapUpdate t (.map (some b)) (mk a) u).run P w = .ok () w'/\MapB mk w' b (assocPut a u l)/\w.grownBy w' (some b)/\w'.heap.size=w.heap.size:=by
 obtain ⟨es,clock,hb,hes,hnd,hold⟩:=h
 have hlt:b<w.heap.size:=(Array.getElem?_eq_some_iff.1 hb).1
 rcases findNow_spec K a u es.toList l 0 hes with ⟨h1,h2,h3⟩|⟨j,v',e',h1,h2,h3,h4,h5⟩
 ·refine ⟨_,by
   unfold Instr.mapUpdate Instr.findKey
   simp only [Sem.run_bind,run_underlying ht,Result.andThen_ok,MapKept.run_getObj_map hb,MapIs.checked K hk,run_underlying hk,h2,Sem.run_pure]
   exact MapKept.run_setObj_map _ hb,?_,?_,by simp⟩
  ·refine ⟨_,_,by simp [hlt];exact ⟨rfl,rfl⟩,?_,?_,?_⟩
   ·rw [h3]
    simp [hes]
   ·rw [Array.toList_push,List.map_append,List.nodup_append]
    refine ⟨hnd,by simp,?_⟩
    intro x hx y hy
    obtain ⟨q,hq,rfl⟩:=List.mem_map.1 hx
    simp at hy
    have:=hold q hq
    omega
   ·intro x hx
    simp at hx
    rcases hx with hx|rfl
    ·have:=hold x (by simpa using hx)
     omega
    ·show clock<clock+1
     omega
  ·exact ⟨rfl,rfl,rfl,by simp,fun i _ hi=>by
    simp only [Array.getElem?_setIfInBounds]
    rw [if_neg (fun e=>hi (by rw [e]))]⟩
 ·have hej:es[j]?=some e':=by simpa using h3
  refine ⟨_,by
   unfold Instr.mapUpdate Instr.findKey Instr.keyThatStays
   simp only [Sem.run_bind,run_underlying ht,Result.andThen_ok,MapKept.run_getObj_map hb,MapIs.checked K hk,run_underlying hk,h2,Sem.run_pure,Nat.zero_add,hej,Option.map_some,Option.getD_some,h4,K.bits,if_true]
   exact MapKept.run_setObj_map _ hb,?_,?_,by simp⟩
  ·have hbn:=modify_born (f:=fun e=>{ e with key:=mk a,val:=u }) (fun _=>rfl) es j
   refine ⟨_,_,by simp [hlt];exact ⟨rfl,rfl⟩,?_,by rw [hbn];exact hnd,?_⟩
   ·rw [<-h5]
    simp [Array.toList_modify]
   ·intro x hx
    have:x.born∈(es.modify j (fun e=>{ e with key:=mk a,val:=u })).toList.map (·.born):=List.mem_map.2 ⟨x,hx,rfl⟩
    rw [hbn] at this
    obtain ⟨y,hy,e⟩:=List.mem_map.1 this
    rw [<-e]
    exact hold y hy
  ·exact ⟨rfl,rfl,rfl,by simp,fun i _ hi=>by
    simp only [Array.getElem?_setIfInBounds]
    rw [if_neg (fun e=>hi (by rw [e]))]⟩
def IterOn (mk : κ → Value) (w : World) (r bm : Nat) (l left : List (κ × Value)) : Prop :=
 r≠bm/\(l.map (·.1)).Nodup/\(∀ p∈left,p∈l)/\∃ es clock seen,w.heap[bm]?=some (.map es clock)/\es.toList.map (fun e=>(e.key,e.val))=l.map (fun p=>(mk p.1,p.2))/\(es.toList.map (·.born)).Nodup/\(∀ e∈es.toList,e.born<clock) ∧
  w.heap[r]?=some (.mapIter (some bm) clock seen clock)/\(leftOf es seen).toList.map (fun e=>(e.key,e.val))=left.map (fun p=>(mk p.1,p.2))
theorem IterOn.lt {r bm : Nat} {left : List (κ × Value)} (h : IterOn mk w r bm l left) : r < w.heap.size := by
 obtain ⟨_,_,_,es,clock,seen,_,_,_,_,hr,_⟩:=h
 exact (Array.getElem?_eq_some_iff.1 hr).1
theorem IterOn.below {w' : World} {r bm B : Nat} {left : List (κ × Value)} (h : IterOn mk w r bm l left) (hb : Below B w w') (hB : bm < B) (hr : r < B) : IterOn mk w' r bm l left := by
 obtain ⟨h1,h2,h3,es,clock,seen,h4,h5,h6,h7,h8,h9⟩:=h
 exact ⟨h1,h2,h3,es,clock,seen,(hb.block _ hB).trans h4,h5,h6,h7,(hb.block _ hr).trans h8,h9⟩
theorem IterOn.left_eq {r bm : Nat} {left : List (κ × Value)} (h : IterOn mk w r bm l left) : w.rangeLeft bm r = left.length := by
 obtain ⟨_,_,_,es,clock,seen,hb,_,_,_,hr,hl⟩:=h
 simp only [World.rangeLeft,hb,hr]
 have:=congrArg List.length hl
 simpa using this
theorem IterOn.fewer {left : List (κ × Value)} {p : κ × Value} (hp : p ∈ left) : (left.filter (fun q => !decide (q.1 = p.1))).length < left.length := by
 induction left with
 | nil=>simp at hp
 | cons a t ih =>
   have hle:∀ t:List (κ×Value),(t.filter (fun q => !decide (q.1=p.1))).length<=t.length:=fun t=>List.length_filter_le _ t
   rcases List.mem_cons.1 hp with rfl|h
   ·have h1:=hle t
    simp only [List.filter_cons,decide_true,Bool.not_true,Bool.false_eq_true,if_false,List.length_cons]
    omega
   ·have h1:=ih h
    simp only [List.filter_cons]
    split<;>simp only [List.length_cons]<;>omega
theorem MapB.range (h : MapB mk w b l) (hn : (l.map (·.1)).Nodup) {t k e : TypeId} (ht : P.underlying t = some (.map k e)) :
 ∃ w',(Instr.range t (.map (some b))).run P w = .ok (.pointer (some ⟨w.heap.size,0,none⟩)) w'/\IterOn mk w' w.heap.size b l l/\w.grownBy w' none/\w'.heap.size=w.heap.size+1:=by
 have hlt:=h.lt
 obtain ⟨es,clock,hb,hes,hnd,hold⟩:=h
 refine ⟨_,run_range_map w t k e b es clock ht hb,⟨by omega,hn,fun _ h=>h,es,clock,#[],((MapKept.heap_alloc w _).2 b hlt).trans hb,hes,hnd,hold,(MapKept.heap_alloc w _).1,?_⟩,World.grownBy_alloc w _ none,by simp⟩
 rw [show leftOf es #[]=es from by unfold leftOf;exact Array.filter_eq_self.2 (by simp)]
 exact hes
theorem left_filter (K : KeyOn kind mk) : ∀ (es : List MapEntry) (left l : List (κ × Value)) (seen : Array Nat) (L : List MapEntry),(∀ x ∈ es,x ∈ L) → (L.map (·.born)).Nodup → (∀ p ∈ left,p ∈ l) → (l.map (·.1)).Nodup → L.map (fun e => (e.key,e.val)) = l.map (fun p => (mk p.1,p.2)) →
 es.map (fun e=>(e.key,e.val))=left.map (fun p=>(mk p.1,p.2))->∀ e∈L,∀ p∈l,e.key=mk p.1 →
 (es.filter (fun x => !(x.born==e.born))).map (fun e=>(e.key,e.val))=(left.filter (fun q => !decide (q.1=p.1))).map (fun p=>(mk p.1,p.2))
 | [],[],_,_,_,_,_,_,_,_,_,_,_,_,_,_=>rfl
 | [],p::left,_,_,_,_,_,_,_,_,h,_,_,_,_,_=>by simp at h
 | e::es,[],_,_,_,_,_,_,_,_,h,_,_,_,_,_=>by simp at h
 | x::es,q::left,l,seen,L,hL,hnd,hl,hnk,hLl,h,e,he,p,hp,hek=>by
   have inj:∀ a b:κ,mk a=mk b->a=b:=fun a b hab=>by
    have h1:=K.same a b
    have h2:=K.same b b
    rw [hab,h2] at h1
    simpa using h1
   simp only [List.map_cons,List.cons.injEq,Prod.mk.injEq] at h
   obtain ⟨⟨hk,hv⟩,hr⟩:=h
   have ih:=left_filter K es left l seen L (fun y hy=>hL y (by simp [hy])) hnd (fun y hy=>hl y (by simp [hy])) hnk hLl hr e he p hp hek
   have hiff:(x.born==e.born)=decide (q.1=p.1):=by
    by_cases hb:x.born=e.born
    ·have hxe:=born_inj hnd (hL x (by simp)) he hb
     subst hxe
     have:=inj _ _ (hk.symm.trans hek)
     simp [this]
    ·have hne:q.1≠p.1:=fun hqp=>by
      have hkk:x.key=e.key:=by rw [hk,hek,hqp]
      have hKn:(L.map (·.key)).Nodup:=by
       have:L.map (·.key)=(l.map (·.1)).map mk:=by
        have h2:=congrArg (List.map Prod.fst) hLl
        simpa [List.map_map,Function.comp_def] using h2
       rw [this]
       exact List.Pairwise.map mk (fun a b hab hc=>hab (inj _ _ hc)) hnk
      have hfind:∀ (L:List MapEntry),(L.map (·.key)).Nodup->∀ x∈L,∀ e∈L,x.key=e.key->x=e:=by
       intro L
       induction L with
       | nil=>intro _ x hx;simp at hx
       | cons y t iht =>
         intro hn x hx e he hxe
         simp only [List.map_cons,List.nodup_cons] at hn
         rcases List.mem_cons.1 hx with h1|h1
         ·rcases List.mem_cons.1 he with h2|h2
          ·rw [h1,h2]
          ·exact absurd (List.mem_map.2 ⟨e,h2,by rw [<-hxe,h1]⟩) hn.1
         ·rcases List.mem_cons.1 he with h2|h2
          ·exact absurd (List.mem_map.2 ⟨x,h1,by rw [hxe,h2]⟩) hn.1
          ·exact iht hn.2 x h1 e h2 hxe
      exact hb (by rw [hfind L hKn x (hL x (by simp)) e he hkk])
     simp [hb,hne]
   simp only [List.filter_cons,hiff]
   split<;>simp [ih,hk,hv]
theorem contains_push_left (es : Array MapEntry) (seen : Array Nat) (b : Nat) : (leftOf es (seen.push b)).toList = (leftOf es seen).toList.filter (fun x => !(x.born == b)) := by
 unfold leftOf
 simp only [Array.toList_filter,List.filter_filter]
 congr 1
 funext x
 rw [contains_push]
 cases seen.contains x.born<;>cases (x.born==b)<;>rfl
theorem IterOn.next {r bm : Nat} {left : List (κ × Value)} (h : IterOn mk w r bm l left) (K : KeyOn kind mk) (ty : TypeId) :
 (left=[]/\(Instr.next (.pointer (some ⟨r,0,none⟩)) false ty).run P w = .ok (.tuple #[.bool false]) w) ∨
 ∃ p∈left,∃ w',(Instr.next (.pointer (some ⟨r,0,none⟩)) false ty).run P w = .ok (.tuple #[.bool true,mk p.1,p.2]) w'/\IterOn mk w' r bm l (left.filter (fun q => !decide (q.1=p.1))) ∧
  w.grownBy w' (some r)/\w'.heap.size=w.heap.size/\(Instr.entry (.pointer (some ⟨r,0,none⟩))).run P w' = .ok (.tuple #[mk p.1,p.2]) w':=by
 obtain ⟨hne,hnk,hll,es,clock,seen,hb,hes,hnd,hold,hr,hleft⟩:=h
 rcases run_next_at (P:=P) w ty r bm clock clock seen es clock hr hb hold (Nat.le_refl _) with ⟨h0,hrun⟩|⟨e,he,w1,hal,hrun⟩
 ·have:leftOf es seen = #[]:=Array.eq_empty_of_size_eq_zero h0
  rw [this] at hleft
  exact Or.inl ⟨by simpa using hleft.symm,hrun⟩
 ·obtain ⟨hem,hes'⟩:=mem_left he
  have hin:(e.key,e.val)∈left.map (fun p=>(mk p.1,p.2)):=by rw [<-hleft];exact List.mem_map.2 ⟨e,he,rfl⟩
  obtain ⟨p,hp,hpe⟩:=List.mem_map.1 hin
  have hr1:w1.heap[r]?=some (.mapIter (some bm) clock seen clock):=by rcases hal with rfl|rfl<;>exact hr
  have hb1:w1.heap[bm]?=some (.map es clock):=by rcases hal with rfl|rfl<;>exact hb
  have hset:=MapKept.heap_set (o' := .mapIter (some bm) clock (seen.push e.born) clock) hr1
  have hb':(ChangeMaps.setBlock w1 r (.mapIter (some bm) clock (seen.push e.born) clock)).heap[bm]?=some (.map es clock):=(hset.2 bm (fun e1=>hne e1.symm)).trans hb1
  have hk:e.key=mk p.1:=(congrArg Prod.fst hpe).symm
  have hv:e.val=p.2:=(congrArg Prod.snd hpe).symm
  have hent:=run_entry_at (P:=P) _ r bm clock seen es clock e hset.1 hb' hem hnd
  rw [hk,hv] at hrun hent
  refine Or.inr ⟨p,hp,_,hrun,⟨hne,hnk,fun q hq=>hll q (List.mem_filter.1 hq).1,es,clock,seen.push e.born,hb',hes,hnd,hold,hset.1,?_⟩,?_,?_,hent⟩
  ·rw [contains_push_left]
   exact left_filter K _ left l seen es.toList (fun x hx=>(mem_left hx).1) hnd hll hnk hes hleft e hem p (hll p hp) hk
  ·rcases hal with rfl|rfl<;>exact ⟨rfl,rfl,rfl,by simp [ChangeMaps.setBlock],fun i _ hi=>hset.2 i (fun e1=>hi (by rw [e1]))⟩
  ·rcases hal with rfl|rfl<;>simp [ChangeMaps.setBlock]
end
theorem wpList_rangeB {κ : Type} [DecidableEq κ] {P : Program} (w : World) {ops : Array Oper} {rest : List Oper} {o : Oper} {a : Act} {Q : Exit → Act → World → Prop}
 (hg:o.guard=none) (m:Operand) (t:TypeId) (hop:o.op=Op.range t m) {mk:κ->Value} (k e:TypeId) (ht:P.underlying t=some (.map k e)) (b:Nat) (l:List (κ×Value)) (hn:(l.map (·.1)).Nodup)
 (hm:a.eval m = .map (some b)) (hown:MapB mk w b l)
 (hK:∀ w',IterOn mk w' w.heap.size b l l->w.grownBy w' none->w'.heap.size=w.heap.size+1->wpList P ops Q rest (a.put o.dst (.pointer (some ⟨w.heap.size,0,none⟩))) w') :
 wpList P ops Q (o::rest) a w:=by
 refine wpList_plain hg fun K' hK'=>?_
 obtain ⟨w',hrun,r1,r2,r3⟩:=hown.range hn ht
 unfold Oper.wp
 simp [execOp,hop,hm,hrun,Result.andThen]
 exact hK' _ _ (hK w' r1 r2 r3)
theorem wpList_nextB {κ : Type} [DecidableEq κ] {P : Program} (w : World) {ops : Array Oper} {rest : List Oper} {o : Oper} {a : Act} {Q : Exit → Act → World → Prop}
 (hg:o.guard=none) (it:Operand) (hop:o.op=Op.next it false) {mk:κ->Value} {kind:TypeDesc} (K:KeyOn kind mk) (b r:Nat) (l left:List (κ×Value))
 (hit:a.eval it = .pointer (some ⟨r,0,none⟩)) (h:IterOn mk w r b l left)
 (hDone:left=[]->wpList P ops Q rest (a.put o.dst (.tuple #[.bool false])) w)
 (hMore:∀ p∈left,∀ (w':World),IterOn mk w' r b l (left.filter (fun q => !decide (q.1=p.1)))->w.grownBy w' (some r)->w'.heap.size=w.heap.size->(Instr.entry (.pointer (some ⟨r,0,none⟩))).run P w' = .ok (.tuple #[mk p.1,p.2]) w'->wpList P ops Q rest (a.put o.dst (.tuple #[.bool true,mk p.1,p.2])) w') :
 wpList P ops Q (o::rest) a w:=by
 refine wpList_plain hg fun K' hK'=>?_
 unfold Oper.wp
 rcases h.next (P:=P) K o.type with ⟨h0,hrun⟩|⟨p,hp,w',hrun,hi,hgr,hsz,hen⟩
 ·simp [execOp,hop,hit,hrun,Result.andThen]
  exact hK' _ _ (hDone h0)
 ·simp [execOp,hop,hit,hrun,Result.andThen]
  exact hK' _ _ (hMore p hp w' hi hgr hsz hen)
open Go.RowKit
theorem keyOn_u8 : KeyOn (.int .u8) (fun n : Int => Value.int .u8 n) where
 same a b:=by simp [Instr.sameNow,Bool.beq_eq_decide_eq]
 bits a:=by simp [Instr.sameBits]
 check w a h:=by rw [checkKey_succ];unfold Instr.checkKey;simp [run_underlying h,Result.andThen]
 checkE w a h:=by rw [checkKey_succ];unfold Instr.checkKey;simp [run_underlying h,Result.andThen]
theorem kindOfT_cases (c : UInt8) : (c = 48 ∧ kindOfT c = 1) ∨ (c = 53 ∧ kindOfT c = 2) ∨ (c = 50 ∧ kindOfT c = 3) ∨ (c = 49 ∧ kindOfT c = 4) ∨ ((c.toNat : Int) ≠ 48 ∧ (c.toNat : Int) ≠ 53 ∧ (c.toNat : Int) ≠ 50 ∧ (c.toNat : Int) ≠ 49 ∧ kindOfT c = 0) := by
 have hn:∀ k:UInt8,c≠k->(c.toNat:Int)≠(k.toNat:Int):=fun k h e=>h (UInt8.toNat_inj.1 (by exact_mod_cast e))
 unfold kindOfT
 by_cases h0:c=48
 ·left;exact ⟨h0,if_pos h0⟩
 ·by_cases h1:c=53
  ·right;left;exact ⟨h1,by rw [if_neg h0,if_pos h1]⟩
  ·by_cases h2:c=50
   ·right;right;left;exact ⟨h2,by rw [if_neg h0,if_neg h1,if_pos h2]⟩
   ·by_cases h3:c=49
    ·right;right;right;left;exact ⟨h3,by rw [if_neg h0,if_neg h1,if_neg h2,if_pos h3]⟩
    ·right;right;right;right
     exact ⟨hn 48 h0,hn 53 h1,hn 50 h2,hn 49 h3,by rw [if_neg h0,if_neg h1,if_neg h2,if_neg h3]⟩
def kindRow : List (Int × Value) := [(48,.int .i64 1),(53,.int .i64 2),(50,.int .i64 3),(49,.int .i64 4)]
theorem kind_look {P : Program} {t k e : TypeId} (ht : P.underlying t = some (.map k e)) (hk : P.underlying k = some (.int .u8)) (hz : ∀ w : World,(zeroValue e).run P w = .ok (.int .i64 0) w) (c : UInt8) (W : World) :
 (Instr.lookup t (.map (some W.heap.size)) (.int .u8 (c.toNat:Int)) false).run P (W.alloc (.map #[⟨.int .u8 48,.int .i64 1,0⟩,⟨.int .u8 53,.int .i64 2,1⟩,⟨.int .u8 50,.int .i64 3,2⟩,⟨.int .u8 49,.int .i64 4,3⟩] 4)) =
   .ok (.int .i64 (kindOfT c)) (W.alloc (.map #[⟨.int .u8 48,.int .i64 1,0⟩,⟨.int .u8 53,.int .i64 2,1⟩,⟨.int .u8 50,.int .i64 3,2⟩,⟨.int .u8 49,.int .i64 4,3⟩] 4)):=by
 have h:MapIs (fun n:Int=>Value.int .u8 n) (W.alloc (.map #[⟨.int .u8 48,.int .i64 1,0⟩,⟨.int .u8 53,.int .i64 2,1⟩,⟨.int .u8 50,.int .i64 3,2⟩,⟨.int .u8 49,.int .i64 4,3⟩] 4)) W.heap.size kindRow:=⟨_,_,heap_alloc_new _ _,rfl⟩
 rcases kindOfT_cases c with ⟨hc,e0⟩|⟨hc,e0⟩|⟨hc,e0⟩|⟨hc,e0⟩|⟨h1,h2,h3,h4,e0⟩
 ·rw [e0,hc];exact h.look_some keyOn_u8 ht hk (by rfl) false
 ·rw [e0,hc];exact h.look_some keyOn_u8 ht hk (by rfl) false
 ·rw [e0,hc];exact h.look_some keyOn_u8 ht hk (by rfl) false
 ·rw [e0,hc];exact h.look_some keyOn_u8 ht hk (by rfl) false
 ·rw [e0]
  exact h.look_none keyOn_u8 ht hk (a:=(c.toNat:Int)) (by simp [assoc,kindRow,h1,h2,h3,h4]) (hz _) false
open Go.RowKit
theorem restOf_trim (l : List UInt8) : Lib.trimPrefix l [45] = restOf l ∧ Lib.hasPrefix l [45] = belowOf l := by
 unfold Lib.trimPrefix Lib.hasPrefix restOf belowOf
 cases l with
 | nil=>exact ⟨rfl,rfl⟩
 | cons c l =>
   by_cases h:c=45
   ·subst h;simp [List.isPrefixOf]
   ·have h2:¬ (45:UInt8)=c:=fun e=>h e.symm
    simp [List.isPrefixOf,h,h2]
theorem indexByte_dot (l : List UInt8) : Lib.indexByte l 46 = if dotAt l < l.length then (dotAt l : Int) else -1 := by
 induction l with
 | nil=>rfl
 | cons b l ih =>
   unfold Lib.indexByte
   by_cases h:b=46
   ·subst h
    simp [dotAt]
   ·have hd:dotAt (b::l)=dotAt l+1:=by simp [dotAt,h]
    have hb:(b==46)=false:=by simpa using h
    rw [hb,ih,hd]
    simp only [Bool.false_eq_true,if_false]
    by_cases hl:dotAt l<l.length
    ·have:(((dotAt l:Nat):Int) == -1)=false:=by rw [beq_eq_false_iff_ne];omega
     rw [if_pos hl,this,if_pos (show dotAt l+1<(b::l).length by simpa using hl)]
     simp
    ·rw [if_neg hl,if_neg (show ¬ dotAt l+1<(b::l).length by simp;omega)]
     rfl
theorem bl_list {s : ByteArray} {k : Nat} (h : k < s.size) : k < s.data.toList.length ∧ s.data.toList[k]? = some s[k] := by
 have h1:k<s.data.toList.length:=by simpa using h
 refine ⟨h1,?_⟩
 rw [List.getElem?_eq_getElem h1]
 rfl
theorem take_next {l : List UInt8} {k : Nat} {c : UInt8} (h : l[k]? = some c) : l.take (k + 1) = l.take k ++ [c] := by
 rw [List.take_add_one,h]
 rfl
theorem isDig_t {c : UInt8} (h1 : 48 ≤ c.toNat) (h2 : c.toNat ≤ 57) : isDig c = true := by unfold isDig; simp [h1,h2]
theorem isDig_f {c : UInt8} (h : c.toNat < 48 ∨ 57 < c.toNat) : isDig c = false := by
 unfold isDig
 rw [decide_eq_false_iff_not]
 omega
theorem all_next {l : List UInt8} {k : Nat} {c : UInt8} (h : l[k]? = some c) (ha : (l.take k).all isDig = true) (hc : isDig c = true) : (l.take (k + 1)).all isDig = true := by
 rw [take_next h,List.all_append,ha]
 simp [hc]
theorem val_next {l : List UInt8} {k : Nat} {c : UInt8} (h : l[k]? = some c) : decVal (l.take (k + 1)) = 10 * decVal (l.take k) + (c.toNat - 48) := by
 rw [take_next h,decVal_snoc]
theorem not_all {l : List UInt8} {k : Nat} {c : UInt8} (h : l[k]? = some c) (hc : isDig c = false) : l.all isDig = false := by
 rw [<-Bool.not_eq_true]
 intro ha
 have:=List.all_eq_true.1 ha c (List.mem_of_getElem? h)
 rw [hc] at this
 cases this
theorem decVal_lt : ∀ (n : Nat) {l : List UInt8},l.length = n → l.all isDig = true → decVal l < 10 ^ n
 | 0,l,hn,_=>by
   obtain rfl:=List.eq_nil_of_length_eq_zero hn
   decide
 | n+1,l,hn,h=>by
   rcases List.eq_nil_or_concat l with e|⟨l',c,e⟩
   ·rw [e] at hn;cases hn
   ·rw [List.concat_eq_append] at e
    subst e
    rw [List.all_append,Bool.and_eq_true] at h
    have h1:=decVal_lt n (l:=l') (by simpa using hn) h.1
    have h2:isDig c=true:=by simpa using h.2
    unfold isDig at h2
    have h3:=of_decide_eq_true h2
    rw [decVal_snoc,Nat.pow_succ]
    omega
theorem digCount_is {l : List UInt8} {k m : Nat} (ha : (l.take k).all isDig = true) (hk : k ≤ l.length) (hm : k ≤ m) (h : k = m ∨ k = l.length ∨ ∃ c,l[k]? = some c ∧ isDig c = false) : digCount m l = k := by
 induction k generalizing l m with
 | zero =>
   cases m with
   | zero=>rfl
   | succ m =>
     cases l with
     | nil=>rfl
     | cons c l =>
       rcases h with h|h|⟨d,h1,h2⟩
       ·cases h
       ·simp at h
       ·simp at h1
        subst h1
        simp [digCount,h2]
 | succ k ih =>
   cases m with
   | zero=>omega
   | succ m =>
     cases l with
     | nil=>simp at hk
     | cons c l =>
       rw [List.take_succ_cons,List.all_cons,Bool.and_eq_true] at ha
       rw [digCount,if_pos ha.1,ih ha.2 (by simpa using hk) (by omega) ?_]
       rcases h with h|h|h
       ·exact .inl (by omega)
       ·exact .inr (.inl (by simpa using h))
       ·exact .inr (.inr (by simpa using h))
end Go.Creel
namespace Go.Proofs.YtaffgndickdbiaaGreatDoor
open Go.Creel Go.RowKit
theorem CutPre_any (l : List UInt8) (w : World) :
 Calls Tryz.prog 174 #[.string (ofL l),.string ⟨#[45]⟩] w fun e w'=>e = .returned (.tuple #[.string (ofL (restOf l)),.bool (belowOf l)])/\w=w':=by
 refine (Tryz.strings_CutPrefix (ofL l) ⟨#[45]⟩ w).mono ?_
 rintro e w' ⟨rfl,rfl⟩
 refine ⟨?_,rfl⟩
 rw [ofL_data]
 obtain ⟨h1,h2⟩:=restOf_trim l
 show Ending.returned (Value.tuple #[.string (ofL (Lib.trimPrefix l [45])),.bool (Lib.hasPrefix l [45])])=_
 rw [h1,h2]
theorem IndexDot_any (l : List UInt8) (w : World) :
 Calls Tryz.prog 229 #[.string (ofL l),.string ⟨#[46]⟩] w fun e w'=>e = .returned (.int .i64 (if dotAt l<l.length then (dotAt l:Int) else -1))/\w=w':=by
 refine (Any.stringslite_Index_one { Tryz.lays143 with } (ofL l) 46 w).mono ?_
 rintro e w' ⟨rfl,rfl⟩
 rw [ofL_data,indexByte_dot]
 exact ⟨rfl,rfl⟩
set_option maxRecDepth 100000 in
set_option maxHeartbeats 1000000 in
theorem SlCut_any (l : List UInt8) (w : World) (hl : l.length ≤ maxLen) :
 Calls Tryz.prog 210 #[.string (ofL l),.string ⟨#[46]⟩] w fun e w'=>(if dotAt l<l.length then e = .returned (.tuple #[.string (ofL (l.take (dotAt l))),.string (ofL (l.drop (dotAt l+1))),.bool true]) else e = .returned (.tuple #[.string (ofL l),.string ByteArray.empty,.bool false]))/\∃ n,w'=w.drewN n:=by
 have hI:=IndexDot_any l w
 unfold maxLen at hl
 by_cases h:dotAt l<l.length
 ·rw [if_pos h] at hI
  have hsz:(ofL l).size=l.length:=ofL_size l
  have HE1:=Lib.hid (show (ofL l).extract 0 (dotAt l)=ofL (l.take (dotAt l)) by rw [ofL_extract,List.drop_zero,Nat.sub_zero])
  have HE2:=Lib.hid (show (ofL l).extract (dotAt l+1) (ofL l).size=ofL (l.drop (dotAt l+1)) by rw [ofL_extract,hsz,List.take_of_length_le (by rw [List.length_drop];omega)])
  generalize ofL l=s at *
  generalize ofL (l.take (dotAt l))=s1 at *
  generalize ofL (l.drop (dotAt l+1))=s2 at *
  simp only [if_pos h]
  have HI:=Lib.hid hI
  have hd:dotAt l<s.size:=by omega
  have hsl:s.size<=9223372036854775807:=by omega
  generalize dotAt l=d at *
  clear hI h hsz hl
  go_enter Tryz.func210,Tryz.ntmps210
  go_wp2_with fail
  refine HI.out.mono ?_
  rintro e w' ⟨rfl,rfl⟩
  go_wp2_with fail
  go_quiet (fail)
  go_wp2
  go_ret3
  refine ⟨?_,_,rfl⟩
  rw [<-HE1.out,<-HE2.out]
  rfl
 ·rw [if_neg h] at hI
  simp only [if_neg h]
  have HI:=Lib.hid hI
  generalize ofL l=s at *
  clear hI h hl
  go_enter Tryz.func210,Tryz.ntmps210
  go_wp2_with fail
  refine HI.out.mono ?_
  rintro e w' ⟨rfl,rfl⟩
  go_wp2
  go_ret3
  exact ⟨rfl,0,rfl⟩
set_option maxRecDepth 100000 in
theorem Cut_any (l : List UInt8) (w : World) (hl : l.length ≤ maxLen) :
 Calls Tryz.prog 173 #[.string (ofL l),.string ⟨#[46]⟩] w fun e w'=>(if dotAt l<l.length then e = .returned (.tuple #[.string (ofL (l.take (dotAt l))),.string (ofL (l.drop (dotAt l+1))),.bool true]) else e = .returned (.tuple #[.string (ofL l),.string ByteArray.empty,.bool false]))/\∃ n,w'=w.drewN n:=by
 have hI:=SlCut_any l w hl
 by_cases h:dotAt l<l.length
 ·simp only [if_pos h] at hI ⊢
  have HI:=Lib.hid hI
  generalize ofL l=s at *
  generalize ofL (l.take (dotAt l))=s1 at *
  generalize ofL (l.drop (dotAt l+1))=s2 at *
  clear hI h hl
  go_enter Tryz.func173,Tryz.ntmps173
  go_wp2_with fail
  refine HI.out.mono ?_
  rintro e w' ⟨rfl,n,rfl⟩
  go_wp2
  go_ret3
  exact ⟨rfl,_,rfl⟩
 ·simp only [if_neg h] at hI ⊢
  have HI:=Lib.hid hI
  generalize ofL l=s at *
  clear hI h hl
  go_enter Tryz.func173,Tryz.ntmps173
  go_wp2_with fail
  refine HI.out.mono ?_
  rintro e w' ⟨rfl,n,rfl⟩
  go_wp2
  go_ret3
  exact ⟨rfl,_,rfl⟩
set_option maxRecDepth 100000 in
set_option maxHeartbeats 1000000 in
theorem Digits_any (s : ByteArray) (most : Nat) (w : World) (hs : s.size ≤ maxLen) (hm : most ≤ 13) :
 Calls Tryz.prog 175 #[.string s,.int .i64 most] w fun e w'=>e = .returned (.tuple #[.int .i64 ((digitsP s.data.toList most).1:Int),.bool (digitsP s.data.toList most).2])/\w=w':=by
 have hsz:s.data.toList.length=s.size:=by simp
 unfold maxLen at hs
 by_cases h1:s.size<1
 ·have HF:=Lib.hid (show digitsP s.data.toList most=(0,false) by unfold digitsP;rw [if_pos (.inl (by omega))])
  have h2:s.size=0:=by omega
  clear hsz h1
  go_enter Tryz.func175,Tryz.ntmps175
  go_wp2
  go_ret2
  exact ⟨by rw [HF.out];rfl,rfl⟩
 by_cases h2:most<s.size
 ·have HF:=Lib.hid (show digitsP s.data.toList most=(0,false) by unfold digitsP;rw [if_pos (.inr (by omega))])
  clear hsz
  go_enter Tryz.func175,Tryz.ntmps175
  go_wp2
  go_ret2
  exact ⟨by rw [HF.out];rfl,rfl⟩
 ·have HF:=Lib.hid (show digitsP s.data.toList most=if s.data.toList.all isDig=true then (decVal s.data.toList,true) else (0,false) by unfold digitsP;rw [if_neg (by omega)])
  have HSZ:=Lib.hid hsz
  clear hsz
  go_enter Tryz.func175,Tryz.ntmps175
  go_wp2
  go_loop [6,7,19] (fun n _ i=>∃ k:Nat,k<=s.size/\i = .int .i64 k/\n = .int .i64 (decVal (s.data.toList.take k):Int)/\Hid ((s.data.toList.take k).all isDig=true)) (fun _ _ i=>s.size-(intOf i).toNat)
  case atStart=>exact ⟨0,by omega,rfl,rfl,Lib.hid rfl⟩
  case round =>
   obtain ⟨k,hk,rfl,rfl,HA⟩:=hrel
   by_cases hlt:k<s.size
   ·obtain ⟨hl1,hl2⟩:=bl_list hlt
    have hv:=decVal_lt k (by rw [List.length_take];omega) HA.out
    have hv2:decVal (s.data.toList.take k)<10000000000000:=Nat.lt_of_lt_of_le hv (Nat.le_trans (Nat.pow_le_pow_right (by decide) (show k<=13 by omega)) (by decide))
    have HVN:=Lib.hid (val_next hl2)
    have HAN:=Lib.hid (all_next hl2 HA.out)
    have HNA:=Lib.hid (not_all hl2)
    have hb':s[k].toNat<256:=UInt8.toNat_lt _
    have HDT:=Lib.hid (isDig_t (c:=s[k]))
    have HDF:=Lib.hid (isDig_f (c:=s[k]))
    clear hv hl2
    generalize decVal (s.data.toList.take k)=n at *
    by_cases hd1:s[k].toNat<48
    ·have HFF:=Lib.hid (HF.out.trans (if_neg (by rw [HNA.out (HDF.out (.inl hd1))];simp)))
     clear HVN HAN
     go_wp2
     go_ret2
     exact ⟨by rw [HFF.out];rfl,rfl⟩
    ·by_cases hd2:57<s[k].toNat
     ·have HFF:=Lib.hid (HF.out.trans (if_neg (by rw [HNA.out (HDF.out (.inr hd2))];simp)))
      clear HVN HAN
      go_wp2
      go_ret2
      exact ⟨by rw [HFF.out];rfl,rfl⟩
     ·have HAN2:=Lib.hid (HAN.out (HDT.out (by omega) (by omega)))
      clear HAN
      go_wp2
      go_round
      case rel=>exact ⟨k+1,by omega,by go_num,by rw [HVN.out];congr 1;omega,HAN2⟩
      case measure=>simp [intOf];omega
   ·obtain rfl:k=s.size:=by omega
    have HT:=Lib.hid (show s.data.toList.take s.size=s.data.toList from List.take_of_length_le (by rw [HSZ.out];exact Nat.le_refl _))
    have HFF:=Lib.hid (HF.out.trans (if_pos (by have:=HA.out;rw [HT.out] at this;exact this)))
    go_wp2
    go_ret2
    exact ⟨by rw [HFF.out,HT.out];rfl,rfl⟩
end Go.Proofs.YtaffgndickdbiaaGreatDoor
