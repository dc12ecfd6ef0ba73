/- A part of the proof. -/
import Derived.Test.YtaffgndickdbiaaGreatDoorV40
set_option linter.unusedVariables false
set_option linter.unusedSimpArgs false
set_option maxRecDepth 100000
set_option maxHeartbeats 4000000
namespace Go.Creel
open Go.RowKit
theorem C2t {t : TypeId} {w : World} {B : Nat} {v : Value} {l : List UInt8} (h : OwnBs t w B v l) (hl : l.length ≤ maxLen) : ∃ da dcap,v = .slice da l.length dcap ∧ A4a maxLen 1 A1e w [.slice da l.length dcap] l ∧ ∀ a,da = some a → B ≤ a.block := by
 rcases h.form with ⟨rfl,rfl⟩|⟨g,cap,rfl,hg⟩
 ·exact ⟨none,0,rfl,h.slice hl,fun a ha=>by cases ha⟩
 ·refine ⟨_,_,rfl,h.slice hl,fun a ha=>?_⟩;cases ha
  exact (World.ownsRow.lt hg g rfl).1
theorem A7x (w : World) (g o : Nat) (u : Value) : w.grownBy (w.setCell ⟨g,o,none⟩ u) (some g) :=
 ⟨rfl,rfl,rfl,by simp,fun k _ hk=>heap_setCell_other w ⟨g,o,none⟩ k u (fun e=>hk (by simp [e]))⟩
theorem C1x {l c : List Nod} {k : Nat} {y : Nod} (h : c.map Nod.bare = (l.take k).map Nod.bare) (hk : k < l.length) (hy : y.bare = (nk l k).bare) : (c ++ [y]).map Nod.bare = (l.take (k + 1)).map Nod.bare := by
 rw [List.map_append,h,List.take_succ_eq_append_getElem hk,List.map_append];rw [A5m hk] at hy;simp [hy]
def Nod.at (x : Nod) (a : Option Addr) (c : Nat) : Nod := { x with da := a,dcap := c }
theorem Nod.at_ok {w : World} {x : Nod} {a : Option Addr} {c : Nat} (h : x.Ok maxLen w) {w' : World} (hd : A4a maxLen 1 A1e w' [.slice a x.data.length c] x.data) : (x.at a c).Ok maxLen w' := ⟨h.path,h.kind,h.same,h.target,h.mt,hd⟩
theorem C2o {t : TypeId} {wr w2 : World} {v1 : Value} {x : Nod} {ty : TypeId} (hd : x.data.length ≤ maxLen)
 (ho:w2.ownsRow (wr.alloc (.cells #[.string x.path,.int .i64 x.kind,.int .i64 x.same,.string x.target,.int .i64 x.mt.mode,.int .i64 x.mt.uid,.int .i64 x.mt.gid,.string x.mt.user,.string x.mt.group,.int .i64 x.mt.second,.int .i64 x.mt.nano,.slice x.da x.data.length x.dcap] ty)).heap.size t 1 v1 (0+x.data.length) ([]++x.data.map A0n))
 (hg:(wr.alloc (.cells #[.string x.path,.int .i64 x.kind,.int .i64 x.same,.string x.target,.int .i64 x.mt.mode,.int .i64 x.mt.uid,.int .i64 x.mt.gid,.string x.mt.user,.string x.mt.group,.int .i64 x.mt.second,.int .i64 x.mt.nano,.slice x.da x.data.length x.dcap] ty)).grownBy w2 (Value.ownBlock (.slice none 0 0))) :
 ∃ da dc,v1=.slice da x.data.length dc/\Hid (B4u w2 wr.heap.size 0 x/\w2.frozen? ⟨wr.heap.size,11,none⟩=false/\Below wr.heap.size wr (w2.setCell ⟨wr.heap.size,11,none⟩ (.slice da x.data.length dc)) ∧
  A4a maxLen 1 A1e (w2.setCell ⟨wr.heap.size,11,none⟩ (.slice da x.data.length dc)) [.slice da x.data.length dc] x.data/\∀ a,da=some a->wr.heap.size<=a.block):=by
 obtain ⟨da,dc,hv,hsl,hbl⟩:=C2t (show OwnBs _ _ _ _ x.data from OwnBs.app (l:=[]) ho) hd;have hlt1:wr.heap.size<(wr.alloc (.cells #[.string x.path,.int .i64 x.kind,.int .i64 x.same,.string x.target,.int .i64 x.mt.mode,.int .i64 x.mt.uid,.int .i64 x.mt.gid,.string x.mt.user,.string x.mt.group,.int .i64 x.mt.second,.int .i64 x.mt.nano,.slice x.da x.data.length x.dcap] ty)).heap.size:=by simp
 have hb1:=(Below.refl wr.heap.size wr).alloc lr (.cells #[.string x.path,.int .i64 x.kind,.int .i64 x.same,.string x.target,.int .i64 x.mt.mode,.int .i64 x.mt.uid,.int .i64 x.mt.gid,.string x.mt.user,.string x.mt.group,.int .i64 x.mt.second,.int .i64 x.mt.nano,.slice x.da x.data.length x.dcap] ty);have hb2:=(Below.refl _ _).grown hg lr (fun k hk=>by simp [Value.ownBlock] at hk);have hg3:=A7x w2 wr.heap.size 11 (.slice da x.data.length dc);refine ⟨da,dc,hv,Hi ⟨(A8t wr x ty).below hb2,(hb2.frozen (p:=⟨wr.heap.size,11,none⟩) hlt1).trans (by simp),(hb1.trans (hb2.mono (Nat.le_of_lt hlt1))).setCell lr _,?_,fun a ha=>?_⟩⟩
 ·exact A4p hsl hg3 (fun p hp ha=>by have:=hbl p ha;simp only [ne_eq,Option.some.injEq];omega)
 ·have:=hbl a ha;omega
theorem D4v {t : TypeId} {wr W : World} {B : Nat} {v : Value} {c : List Nod} {x : Nod} {da : Option Addr} {dc : Nat} (o : Obj) (hown : A2a t wr B v c) (hx : x.Ok maxLen wr)
 (hsl:A4a maxLen 1 A1e W [.slice da x.data.length dc] x.data) (hbl:∀ a,da=some a->wr.heap.size<=a.block):B3r (W.alloc o) v (x.at da dc):=by
 refine ⟨Nod.at_ok hx (hsl.below (fun _ _ h=>h) ((Below.refl _ _).alloc lr o)),fun a _ ha e=>?_⟩;have h1:=hbl a ha;have h2:=(World.ownsRow.lt hown.1 _ e).2;omega
theorem B0v {P : Program} (w : World) {n : Nat} (hn : n = w.heap.size) (tx e' e : TypeId) (hk : P.underlying tx = some (.slice e')) (x : Nod) : Src P 12 tx (.slice (some ⟨n,0,none⟩) 1 1) 1 ([x].flatMap Nod.cells) (w.alloc (.cells #[.string x.path,.int .i64 x.kind,.int .i64 x.same,.string x.target,.int .i64 x.mt.mode,.int .i64 x.mt.uid,.int .i64 x.mt.gid,.string x.mt.user,.string x.mt.group,.int .i64 x.mt.second,.int .i64 x.mt.nano,.slice x.da x.data.length x.dcap] e)) := by
 subst hn;exact B9i w tx e' e hk x
theorem put_new {t : TypeId} {W w1 : World} {B k : Nat} {v v1 : Value} {c : List Nod} {x : Nod} (hown : A2a t W B v c) (hx : B3r W v x) (hk : c.length = k) (ho : w1.ownsRow B t 12 v1 (c.length + 1) (c.flatMap Nod.cells ++ [x].flatMap Nod.cells)) (hg : W.grownBy w1 v.ownBlock)
 (hv:v1.ownBlock=v.ownBlock\/∃ b,v1.ownBlock=some b/\W.heap.size<=b):∃ g cap,v1=.slice (some ⟨g,0,none⟩) (k+1) cap/\Hid (A2a t w1 B (.slice (some ⟨g,0,none⟩) (k+1) cap) (c++[x])/\B<=g):=by
 have h:=hown.app (m:=[x]) (fun y hy=>by rw [List.mem_singleton.1 hy];exact hx) ho hg hv;rcases h.form with ⟨_,h0⟩|⟨g,cap,rfl,h1,_⟩
 ·simp at h0
 ·have e:(c++[x]).length=k+1:=by simp [hk]
  rw [e] at h ⊢;exact ⟨g,cap,rfl,Hi ⟨h,h1⟩⟩
theorem B9a {t : TypeId} {w W W' : World} {v : Value} {c : List Nod} {x : Nod} (hx : x.Ok maxLen w) (hb : Below w.heap.size w W) (hown : A2a t W' w.heap.size v c) : B3r W v x :=
 ⟨hx.below hb,fun a hp ha e=>by
  have h1:=hx.lt a hp ha;have h2:=(World.ownsRow.lt hown.1 _ e).1;omega⟩
theorem F0d {c : List Nod} {x : Nod} {k : Nat} (hk : c.length = k) : nk (c ++ [x]) k = x := by
 subst hk;simp [nk,List.getD_eq_getElem?_getD]
theorem F2n {c : List Nod} {x y : Nod} {k : Nat} (hk : c.length = k) : (c ++ [x]).set k y = c ++ [y] := by
 subst hk;simp
theorem E9e {t tb : TypeId} {w1 w2 : World} {v2 : Value} {B g cp k : Nat} {c : List Nod} {x : Nod} (hown : A2a t w1 B (.slice (some ⟨g,0,none⟩) (k + 1) cp) (c ++ [x])) (hck : c.length = k) (hd : x.data.length ≤ maxLen)
 (ho:w2.ownsRow w1.heap.size tb 1 v2 (0+x.data.length) ([]++x.data.map A0n)) (hg:(w1.alloc (.cells #[] tb)).grownBy w2 (Value.ownBlock (.slice (some ⟨w1.heap.size,0,none⟩) 0 0))) :
 ∃ da dc,v2=.slice da x.data.length dc/\Hid (Below w1.heap.size w1 w2/\w2.cell? ⟨g,k*12+11,none⟩=some (.slice x.da x.data.length x.dcap)/\w2.frozen? ⟨g,k*12+11,none⟩=false ∧
  A2a t (w2.setCell ⟨g,k*12+11,none⟩ (.slice da x.data.length dc)) B (.slice (some ⟨g,0,none⟩) (k+1) cp) (c++[x.at da dc])/\B<=g/\∀ a,da=some a->w1.heap.size<=a.block):=by
 obtain ⟨da,dc,hv,hsl,hbl⟩:=C2t (show OwnBs _ _ _ _ x.data from OwnBs.app (l:=[]) ho) hd;have hb1:=(Below.refl w1.heap.size w1).alloc lr (.cells #[] tb);have hb2:=hb1.grown hg hb1.size (fun k hk=>by simp [Value.ownBlock] at hk;omega);have e:(c++[x]).length=k+1:=by simp [hck]
 have hO2:=hown.below hb2;rw [<-e] at hO2;have hk:k<(c++[x]).length:=by omega
 have hx2:=(hO2.nodIn hk).1;have hn:=hO2.nodAt hk;rw [F0d hck] at hx2 hn;obtain ⟨_,_,_,_,_,_,_,_,_,_,_,h11⟩:=hn;have hlt:=(World.ownsRow.lt hown.1 g rfl);have hp:=hO2.put (k:=k) (j:=11) hk (by omega) (x.at da dc) (.slice da x.data.length dc) (by rw [F0d hck];rfl) ⟨Nod.at_ok hx2 hsl,fun a _ ha e=>by
  have h1:=hbl a ha;simp only [Value.ownBlock,Option.some.injEq] at e;omega⟩
 rw [e,F2n hck] at hp;exact ⟨da,dc,hv,Hi ⟨hb2,h11,hO2.1.frozenAt _,hp.1,hlt.1,hbl⟩⟩
def RetTG (t : TypeId) (w : World) (l : List Nod) (e : Ending) (w' : World) : Prop := ∃ v l',e = .returned v ∧ A2a t w' w.heap.size v l' ∧ l'.map Nod.bare = l.map Nod.bare ∧ Below w.heap.size w w' ∧ ∀ x ∈ l',∀ a,x.da = some a → w.heap.size ≤ a.block
theorem RetTG.ret {t : TypeId} {w w' : World} {l : List Nod} {e : Ending} (h : RetTG t w l e w') : RetT t w l e w' := by
 obtain ⟨v,l',h1,h2,h3,h4,_⟩:=h;exact ⟨v,l',h1,h2,h3,h4⟩
noncomputable def A2e (l : List Nod) (k : Nat) : Nat := if (nk l k).same = 0 then k else (A8x l k (nk l k).same).getD k
noncomputable def A4t (l : List Nod) (k : Nat) : List Int := (List.range k).map fun i => (A2e l i : Int)
theorem B5t (l : List Nod) (k : Nat) : A4t l (k + 1) = A4t l k ++ [(A2e l k : Int)] := by unfold A4t; rw [List.range_succ,List.map_append]; rfl
theorem A0s (l : List Nod) (k : Nat) : (A4t l k).length = k := by simp [A4t]
theorem A0v {l : List Nod} {k : Nat} (h : (nk l k).same = 0) : A2e l k = k := if_pos h
theorem B8o {l : List Nod} {k j : Nat} (h : (nk l k).same ≠ 0) (hj : A8x l k (nk l k).same = some j) : A2e l k = j := by unfold A2e; rw [if_neg h,hj]; rfl
theorem B0p {l : List Nod} {k : Nat} (h : (nk l k).same ≠ 0) (hj : A8x l k (nk l k).same = none) : A2e l k = k := by unfold A2e; rw [if_neg h,hj]; rfl
theorem C6v (l : List Nod) (k : Nat) : A2e l k ≤ k := by
 by_cases h:(nk l k).same=0
 ·rw [A0v h];exact Nat.le_refl _
 ·cases hj:A8x l k (nk l k).same with
  | none=>rw [B0p h hj];exact Nat.le_refl _
  | some j=>rw [B8o h hj];exact Nat.le_of_lt (B2m hj).1
def D1y (l : List Nod) (k : Nat) (m : List (Int × Value)) : Prop := ∀ s,s ≠ 0 → A2v s m = (A8x l k s).map fun j => .int .i64 j
theorem D1y.start (l : List Nod) : D1y l 0 [] := fun s _ => rfl
theorem D1y.skip {l : List Nod} {k : Nat} {m : List (Int × Value)} (h : D1y l k m) (h0 : (nk l k).same = 0) : D1y l (k + 1) m := by
 intro s hs;rw [h s hs,B6e,if_neg (fun e=>hs (e.symm.trans h0)),Option.or_none]
theorem D1y.has {l : List Nod} {k j : Nat} {m : List (Int × Value)} (h : D1y l k m) (hj : A8x l k (nk l k).same = some j) : D1y l (k + 1) m := by
 intro s hs;rw [h s hs,B6e];by_cases e:(nk l k).same=s
 ·rw [<-e,hj];rfl
 ·rw [if_neg e,Option.or_none]
theorem D1y.put {l : List Nod} {k : Nat} {m : List (Int × Value)} (h : D1y l k m) (h0 : (nk l k).same ≠ 0) (hj : A8x l k (nk l k).same = none) : D1y l (k + 1) (A6f (nk l k).same (.int .i64 k) m) := by
 intro s hs;rw [B4h,B6e];by_cases e:s=(nk l k).same
 ·rw [if_pos e,e,hj,if_pos rfl];rfl
 ·rw [if_neg e,if_neg (fun h=>e h.symm),Option.or_none,h s hs]
theorem B9o {l : List Nod} {k : Nat} (h : (nk l k).same ≠ 0) : (nk l (A2e l k)).same = (nk l k).same ∧ ∀ j,j < A2e l k → (nk l j).same ≠ (nk l k).same := by
 cases hj:A8x l k (nk l k).same with
 | none =>
   rw [B0p h hj];exact ⟨rfl,C3j hj⟩
 | some j =>
   rw [B8o h hj];refine ⟨(B2m hj).2,fun q hq e=>?_⟩;unfold A8x at hj;have:=(List.find?_range_eq_some.1 hj).2.2 q hq;simp [e] at this
theorem C0e {l : List Nod} {q k : Nat} : A2e l q = A2e l k ↔ (q = k ∨ ((nk l k).same ≠ 0 ∧ (nk l q).same = (nk l k).same)) := by
 by_cases hk:(nk l k).same=0
 ·rw [A0v hk];by_cases hq:(nk l q).same=0
  ·rw [A0v hq];simp [hk]
  ·constructor
   ·intro e;have:=(B9o hq).1;rw [e,hk] at this;exact absurd this.symm hq
   ·rintro (e|⟨e,_⟩)
    ·rw [e] at hq;exact absurd hk hq
    ·exact absurd hk e
 ·by_cases hq:(nk l q).same=0
  ·rw [A0v hq];constructor
   ·intro e;have:=(B9o hk).1;rw [<-e,hq] at this;exact absurd this.symm hk
   ·rintro (e|⟨_,e⟩)
    ·rw [e] at hq;exact absurd hq hk
    ·rw [hq] at e;exact absurd e.symm hk
  ·obtain ⟨a,b⟩:=B9o hk;obtain ⟨c,d⟩:=B9o hq;constructor
   ·intro e;rw [e,a] at c;exact .inr ⟨hk,c.symm⟩
   ·intro e;have he:(nk l q).same=(nk l k).same:=by
     rcases e with e|⟨_,e⟩
     ·rw [e]
     ·exact e
    rcases Nat.lt_trichotomy (A2e l q) (A2e l k) with h|h|h
    ·exact absurd (c.trans he) (b _ h)
    ·exact h
    ·exact absurd (a.trans he.symm) (d _ h)
noncomputable def A3n (l : List Nod) : List Int × Int := if ¬ A0a l = 0 then ([],A0a l) else (A4t l l.length,0)
noncomputable def A1z (l : List Nod) (k f : Nat) : Nat := ((List.range k).filter fun i => decide (A2e l i = f)).length
noncomputable def B0i (l : List Nod) (k : Nat) : List Int := (List.range k).map fun i => (A1z l l.length (A2e l i) : Int)
noncomputable def A4x (l : List Nod) : List Int × Int := if ¬ A0a l = 0 then ([],A0a l) else (B0i l l.length,0)
theorem B5k (l : List Nod) (k f : Nat) : A1z l (k + 1) f = A1z l k f + (if A2e l k = f then 1 else 0) := by
 unfold A1z;rw [List.range_succ,List.filter_append,List.length_append];by_cases h:A2e l k=f<;>simp [h]
noncomputable def B6y (l : List Nod) (i : Nat) : Int := if 1 < A1z l l.length (A2e l i) then (A2e l i : Int) + 1 else 0
noncomputable def B8p (l : List Nod) : List Nod := (List.range l.length).map fun i => { nk l i with same := B6y l i }
noncomputable def A0q (l : List Nod) : List Nod × Int := if ¬ A0a l = 0 then ([],A0a l) else (B8p l,0)
theorem B1b {l : List Nod} (h : ¬ A0a l = 0) : A0q l = ([],A0a l) := by unfold A0q; rw [if_pos h]
theorem A8u {l : List Nod} (h : A0a l = 0) : A0q l = (B8p l,0) := by unfold A0q; rw [if_neg (by simpa using h)]
def B7u (l m : List Nod) (k : Nat) : Prop := m.length = l.length ∧ ∀ i,i < l.length → (nk m i).bare = { (nk l i).bare with same := if i < k then B6y l i else (nk l i).same }
theorem B7u.start {l m : List Nod} (h : m.map Nod.bare = l.map Nod.bare) : B7u l m 0 := ⟨A5i h,fun i hi => by
 rw [if_neg (by omega),D4j h (by rw [A5i h];exact hi)];rfl⟩
theorem D5s {m : List Nod} {k i : Nat} {y : Nod} (hk : k < m.length) : nk (m.set k y) i = if i = k then y else nk m i := by
 unfold nk;rw [List.getD_eq_getElem?_getD,List.getD_eq_getElem?_getD,List.getElem?_set];by_cases h:k=i
 ·rw [if_pos h,if_pos h.symm,if_pos hk];rfl
 ·rw [if_neg h,if_neg (fun e=>h e.symm)]
theorem B7u.step {l m : List Nod} {k : Nat} (h : B7u l m k) (hk : k < l.length) : B7u l (m.set k { nk m k with same := B6y l k }) (k + 1) := by
 refine ⟨by rw [List.length_set];exact h.1,fun i hi=>?_⟩;rw [D5s (by rw [h.1];exact hk)];have h2:=h.2 i hi;by_cases e:i=k
 ·subst e;rw [if_pos rfl,if_pos (by omega)];rw [if_neg (by omega)] at h2;unfold Nod.bare at h2 ⊢;simp only [Nod.mk.injEq,and_true,true_and] at h2 ⊢;exact ⟨h2.1,h2.2.1,h2.2.2.2⟩
 ·rw [if_neg e,h2];by_cases h3:i<k
  ·rw [if_pos h3,if_pos (by omega)]
  ·rw [if_neg h3,if_neg (by omega)]
theorem C2f (l : List Nod) : (B8p l).length = l.length := by simp [B8p]
theorem B7u.done {l m : List Nod} (h : B7u l m l.length) : m.map Nod.bare = (B8p l).map Nod.bare := by
 apply List.ext_getElem
 ·rw [List.length_map,List.length_map,C2f,h.1]
 ·intro i h1 h2;rw [List.length_map] at h1;have hi:i<l.length:=by rw [<-h.1];exact h1
  have h3:=h.2 i hi;rw [if_pos hi,A5m h1] at h3;rw [List.getElem_map,List.getElem_map,h3];simp only [B8p,List.getElem_map,List.getElem_range];rfl
theorem E2a {l : List Ent} {i : Nat} (h : A3t l i = 0) : A4y l i := by
 obtain ⟨h0,h1⟩:=A5v h;refine Classical.byContradiction fun e=>?_
 by_cases h2:C1b l i
 ·rw [C3h h0 h1 h2 e] at h;cases h
 ·rw [D9f h0 h1 h2] at h;cases h
theorem D2j {l : List Ent} (h : A0b l = 0) {j k : Nat} (hjk : j < k) (hk : k < l.length) : (ek l j).path ≠ (ek l k).path :=
 E3n (p:=fun j=>(ek l j).path) (k:=k) (fun i h0 h1=>(A5v ((A7j h).2 i (by omega))).2 h0) j hjk
theorem F1q {l : List Ent} (h : A0b l = 0) {j k : Nat} (hj : j < l.length) (hk : k < l.length) (he : (ek l j).path = (ek l k).path) : j = k := by
 rcases Nat.lt_trichotomy j k with e|e|e
 ·exact absurd he (D2j h e hk)
 ·exact e
 ·exact absurd he.symm (D2j h e hj)
theorem B2d {x : Ent} (h : A1b x = 0) : x.data.length ≤ 2000 ∧ (x.kind = 1 → x.target.size = 0) := by
 unfold A1b A7h at h;split at h
 ·rename_i h1;exact absurd h h1
 ·split at h
  ·rename_i h1;exact absurd h h1
  ·split at h
   ·cases h
   ·split at h
    ·cases h
    ·rename_i h3
     split at h
     ·cases h
     ·rename_i h4
      refine ⟨by omega,fun hk=>?_⟩;omega
def Ent.nod (x : Ent) (s : Int) : Nod := ⟨x.path,x.kind,s,x.target,x.mt,x.da,x.dcap,x.data⟩
def A1m (l : List Ent) (i q : Nat) : Bool := (List.range q).any fun j => decide ((ek l j).kind = 4) && ((ek l j).target.toList == (ek l i).path.toList) && decide ((ek l i).kind = 1)
theorem A3x (l : List Ent) (i q : Nat) : A1m l i (q + 1) = (A1m l i q || (decide ((ek l q).kind = 4) && ((ek l q).target.toList == (ek l i).path.toList) && decide ((ek l i).kind = 1))) := by
 unfold A1m;rw [List.range_succ,List.any_append];simp
def A3j (l : List Ent) (i : Nat) : Nat := A4c (l.take i) (ek l i).target
def B3b (l : List Ent) (q i : Nat) : Nod :=
 if (ek l i).kind=4 then { (ek l (A3j l i)).nod ((A3j l i:Int)+1) with path:=(ek l i).path } else (ek l i).nod (if A1m l i q=true then (i:Int)+1 else 0)
def A9u (l : List Ent) (q : Nat) : List Nod := (List.range q).map (B3b l q)
theorem A1k (l : List Ent) (q : Nat) : (A9u l q).length = q := by simp [A9u]
theorem E2m (l : List Ent) {q i : Nat} (h : i < q) : nk (A9u l q) i = B3b l q i := by
 rw [A5m (by rw [A1k];exact h)];simp [A9u]
theorem A8v {l : List Ent} (h : A0b l = 0) {i : Nat} (hi : i < l.length) (hk : (ek l i).kind = 4) : A3j l i < i ∧ (ek l (A3j l i)).kind = 1 ∧ (ek l (A3j l i)).mt = (ek l i).mt ∧ (ek l (A3j l i)).path = (ek l i).target := by
 obtain ⟨h1,h2⟩:=E2a ((A7j h).2 i hi) hk;by_cases hf:A4c (l.take i) (ek l i).target<i
 ·rw [B3e hf] at h1 h2;refine ⟨hf,h1,h2,?_⟩;have h3:=B3w (l:=l.take i) (s:=(ek l i).target) (by rw [List.length_take];omega);rw [A6z hf] at h3;exact h3
 ·rw [C4d hf] at h1;cases h1
theorem A1w {l : List Ent} {q i : Nat} (h : ¬ (ek l i).kind = 4) : B3b l q i = (ek l i).nod (if A1m l i q = true then (i : Int) + 1 else 0) := if_neg h
theorem B5e {l : List Ent} {q i : Nat} (h : (ek l i).kind = 4) : B3b l q i = { (ek l (A3j l i)).nod ((A3j l i : Int) + 1) with path := (ek l i).path } := if_pos h
theorem E5t {l : List Ent} {i : Nat} (hz : A0b l = 0) (hi : i < l.length) (h : ¬ (ek l i).kind = 4) : A9u l (i + 1) = A9u l i ++ [(ek l i).nod 0] := by
 have hs:∀ j,A1m l j (i+1)=A1m l j i:=fun j=>by rw [A3x,decide_eq_false h];simp
 have hn:A1m l i i=false:=by
  unfold A1m;rw [List.any_eq_false];intro j hj;have hj':=List.mem_range.1 hj;by_cases hk:(ek l j).kind=4
  ·obtain ⟨h1,h2,h3,h4⟩:=A8v hz (by omega) hk;have hne:(ek l j).target≠(ek l i).path:=by
    rw [<-h4];exact D2j hz (by omega) hi
   simp [A5w hne]
  ·simp [hk]
 unfold A9u;rw [List.range_succ,List.map_append];congr 1
 ·apply List.map_congr_left;intro j _;unfold B3b;rw [hs j]
 ·simp only [List.map_cons,List.map_nil];rw [A1w h,hs i,hn];rfl
theorem E4t {l : List Ent} {i : Nat} (hz : A0b l = 0) (hi : i < l.length) (h : (ek l i).kind = 4) : A9u l (i + 1) = (A9u l i).set (A3j l i) { B3b l i (A3j l i) with same := (A3j l i : Int) + 1 } ++ [{ B3b l i (A3j l i) with same := (A3j l i : Int) + 1,path := (ek l i).path }] := by
 obtain ⟨h1,h2,h3,h4⟩:=A8v hz hi h;have hk4:¬ (ek l (A3j l i)).kind=4:=by rw [h2];decide
 have e1:B3b l i (A3j l i)=(ek l (A3j l i)).nod (if A1m l (A3j l i) i=true then (A3j l i:Int)+1 else 0):=A1w hk4;have hs:∀ j,j<i->j≠A3j l i->A1m l j (i+1)=A1m l j i:=by
  intro j hj hne;rw [A3x];have:(ek l i).target≠(ek l j).path:=by
   rw [<-h4];intro e;exact hne (F1q hz (by omega) (by omega) e.symm)
  rw [A5w this];simp
 have ht:A1m l (A3j l i) (i+1)=true:=by
  rw [A3x,B3n h4.symm,decide_eq_true h,decide_eq_true h2];simp
 apply List.ext_getElem
 ·simp [A9u]
 ·intro j hj1 hj2;have hj:j<i+1:=by rw [A1k] at hj1;exact hj1
  have eL:(A9u l (i+1))[j]=B3b l (i+1) j:=by simp [A9u]
  rw [eL];by_cases hji:j<i
  ·rw [List.getElem_append_left (by rw [List.length_set,A1k];exact hji),List.getElem_set];by_cases hjk:A3j l i=j
   ·rw [if_pos hjk,<-hjk,e1,A1w hk4,if_pos ht];rfl
   ·rw [if_neg hjk];have eR:(A9u l i)[j]'(by rw [A1k];exact hji)=B3b l i j:=by simp [A9u]
    rw [eR];unfold B3b;rw [hs j hji (fun e=>hjk e.symm)]
  ·obtain rfl:j=i:=by omega
   rw [List.getElem_append_right (by rw [List.length_set,A1k];omega)];simp only [List.length_set,A1k,Nat.sub_self,List.getElem_cons_zero];rw [B5e h,e1];rfl
def A4n (l : List Ent) : List Nod := A9u l l.length
noncomputable def grown (l : List Ent) : List Nod × Int := if ¬ A0b l = 0 then ([],A0b l) else (A4n l,0)
theorem B7g {l : List Ent} (h : ¬ A0b l = 0) : grown l = ([],A0b l) := by unfold grown; rw [if_pos h]
theorem B1d {l : List Ent} (h : A0b l = 0) : grown l = (A4n l,0) := by unfold grown; rw [if_neg (by simpa using h)]
def B2q (l : List Ent) (k : Nat) (m : List (ByteArray × Value)) : Prop := ∀ s,A2v s m = if A4c (l.take k) s < k then some (.int .i64 (A4c (l.take k) s)) else none
theorem B2q.start (l : List Ent) : B2q l 0 [] := fun s => rfl
theorem B2q.put {l : List Ent} {k : Nat} {m : List (ByteArray × Value)} (h : B2q l k m) (hk : k < l.length) (hz : A0b l = 0) : B2q l (k + 1) (A6f (ek l k).path (.int .i64 k) m) := by
 intro s;rw [B4h];by_cases e:s=(ek l k).path
 ·rw [if_pos e];have hf:A4c (l.take (k+1)) s=k:=by
   refine B7e (by rw [List.length_take];omega) (fun j hj=>?_) (by rw [A6z (by omega)];exact e.symm);rw [A6z (by omega),e];exact D2j hz hj hk
  rw [if_pos (by omega),hf]
 ·rw [if_neg e,h s];by_cases hf:A4c (l.take k) s<k
  ·rw [if_pos hf];have h1:=C0o hk hf;rw [if_pos (by omega),h1]
  ·rw [if_neg hf];have hn:=C1w (by omega) hf;have:A4c (l.take (k+1)) s=k+1:=C1o (by omega) (fun j hj=>by
    by_cases ej:j=k
    ·rw [ej];exact fun h=>e h.symm
    ·exact hn j (by omega))
   rw [if_neg (by omega)]
end Go.Creel
namespace Go.Proofs.YtaffgndickdbiaaGreatDoor
open Go.Creel Go.RowKit
theorem A9r : (Tryz.prog.info? 99).map (fun i => (i.zero,i.size,i.bytes)) = some (some (.agg #[.string ⟨#[]⟩,.int .i64 0,.int .i64 0,.string ⟨#[]⟩,.int .i64 0,.int .i64 0,.int .i64 0,.string ⟨#[]⟩,.string ⟨#[]⟩,.int .i64 0,.int .i64 0,.slice none 0 0]),12,144) := by kernel_rfl
theorem C9i : (Tryz.prog.info? 5).map (fun i => (i.zero,i.size,i.bytes)) = some (some (.int .u8 0),1,1) := by kernel_rfl
theorem F9u (b off cap : Nat) (l : List Nod) (w : World) (hpos : 0 < l.length) (hfew : l.length ≤ 8000000000) (hle : l.length ≤ cap) (hm : cap ≤ maxLen) (hc : A5p w b off l) (hok : ∀ i,i < l.length → (nk l i).Ok maxLen w) (hdat : ∀ i,i < l.length → (nk l i).data.length ≤ 140737488355328) :
 Calls Tryz.prog 70 #[.slice (some ⟨b,off,none⟩) l.length cap] w (RetT 99 w l):=by
 obtain ⟨i0,hi,hz0,hz1,hz2⟩:=info_parts A9r;have HI:=Hi (And.intro hi (And.intro hz0 (And.intro hz1 hz2)));clear hi hz0 hz1 hz2;obtain ⟨i1,hi,hz0,hz1,hz2⟩:=info_parts C9i;have HJ:=Hi (And.intro hi (And.intro hz0 (And.intro hz1 hz2)));have HC:=Hi hc;have HK:=Hi hok;have HD:=Hi hdat;unfold maxLen at hm;clear hc hok hdat hi hz0 hz1 hz2;go_enter Tryz.func70,Tryz.ntmps70;go_wp2_with (at_make;refine wpList_make_own _ rfl _ _ 51 rfl w.heap.size 99 i0 _ 12 Tryz.underlying51 HI.out.1 HI.out.2.1 HI.out.2.2.1 .i64 .i64 _ l.length rfl rfl (by first|rfl|omega) (by rw [HI.out.2.2.2];omega) (by unfold maxLen;omega) lr ?_;intro w5 hown hgr)
 have HOW5:=Hi (show A2a 99 w5 w.heap.size (.slice (some ⟨w.heap.size,0,none⟩) 0 l.length) [] from ⟨hown,fun x hx=>absurd hx (by simp)⟩);have HB5:=Hi ((Below.refl w.heap.size w).grown hgr lr (fun x hx=>by cases hx));clear hown hgr;go_loopw [3,5,11] (fun v _ i wr=>∃ (k:Nat) (c:List Nod),k<=l.length/\i=.int .i64 k/\c.length=k/\Hid (A2a 99 wr w.heap.size v c)/\Hid (c.map Nod.bare=(l.take k).map Nod.bare)/\Hid (Below w.heap.size w wr)) (fun _ _ i _=>l.length-(intOf i).toNat)
 case atStart=>exact ⟨0,[],by omega,rfl,rfl,HOW5,Hi rfl,HB5⟩
 case round =>
  obtain ⟨k,c,hk,rfl,hck,HOW,HBR,HB⟩:=hrel;by_cases hlt:k<l.length
  ·obtain ⟨h0,h1,h2,h3,h4,h5,h6,h7,h8,h9,h10,h11⟩:=(HC.out.below HB.out) k hlt;have hxl:=HD.out k hlt;have HOB:=Hi HB.out.size;have HKX:=Hi ((HK.out k hlt).below HB.out);have HBY:=Hi (fun (y:Nod) (hy:y.bare=(nk l k).bare)=>C1x HBR.out hlt hy);generalize nk l k=x at *;have hbx:=(Below.refl wr.heap.size wr).alloc lr (A4h x);have HBX:=Hi hbx;have hxd:A4a maxLen 1 A1e (wr.alloc (A4h x)) [.slice x.da x.data.length x.dcap] x.data:=HKX.out.data.below (fun _ _ h=>h) hbx;clear hbx;have happ:∀ ty,D1z Tryz.prog (wr.alloc (A4h x)) 24 24 ty (.slice none 0 0) (.slice x.da x.data.length x.dcap) (wr.alloc (A4h x)).heap.size 5 1 0 x.data.length [] (x.data.map A0n):=fun ty=>A1h (l:=[]) (wr.alloc (A4h x)) 24 24 5 5 i1 Tryz.underlying24 Tryz.underlying24 HJ.out.1 HJ.out.2.1 HJ.out.2.2.1 HJ.out.2.2.2 (OwnBs.nil _ _ _) hxd (by simp;omega) lr ty
   have HAPP:=Hi happ;clear happ;have hob:=HOB.out
   go_wp2_with (first
    | (at_builtin;refine A9b _ rfl (.const (.slice none 0 0)) (.tmp 16) 24 24 rfl _ _ rfl rfl HAPP.out ?_;intro v1 w2 ho hg _;obtain ⟨da,dc,rfl,HP2⟩:=C2o (by unfold maxLen;omega) ho hg;obtain ⟨⟨c0,c1,c2,c3,c4,c5,c6,c7,c8,c9,c10,c11⟩,hfz,_⟩:=HP2.out;simp only [Nat.zero_add] at c1 c2 c3 c4 c5 c6 c7 c8 c9 c10 c11;clear ho hg)
    | (at_builtin;have HO3:=Hi (HOW.out.below (HP2.out.2.2.1.alloc HP2.out.2.2.1.size (A4h (x.at da dc))));have HN3:=Hi (D4v (A4h (x.at da dc)) HOW.out HKX.out HP2.out.2.2.2.1 HP2.out.2.2.2.2);refine A9b _ rfl (.tmp 19) (.tmp 21) 51 51 rfl _ _ rfl rfl (fun ty=>A8g _ 51 51 ty w.heap.size 99 i0 _ 12 144 Tryz.underlying51 HI.out.1 HI.out.2.1 HI.out.2.2.1 HI.out.2.2.2 rfl (by decide) _ _ c.length 1 _ _ HO3.out.1 (B0v (w2.setCell ⟨wr.heap.size,11,none⟩ (.slice da x.data.length dc)) (show w2.heap.size=_ by simp) _ _ _ Tryz.underlying51 (x.at da dc)) (by unfold maxLen;omega) (by omega) (Nat.le_trans HOB.out (HP2.out.2.2.1.alloc HP2.out.2.2.1.size (A4h (x.at da dc))).size)) ?_;intro v2 w4 ho2 hg2 hv2;have HZ:=Hi (And.intro ho2 (And.intro hg2 hv2));clear ho2 hg2 hv2))
   have HO4:=Hi (HO3.out.app (m:=[x.at da dc]) (fun y hy=>by rw [List.mem_singleton.1 hy];exact HN3.out) HZ.out.1 HZ.out.2.1 HZ.out.2.2.2);have HB3:=Hi (HB.out.trans ((HP2.out.2.2.1.alloc HP2.out.2.2.1.size (A4h (x.at da dc))).mono HB.out.size));have HB4:=Hi (A7b HB3.out HZ.out.2.1 HO3.out.1 HB3.out.size);go_wp2;go_roundw
   case rel=>exact ⟨k+1,c++[x.at da dc],by omega,by go_num,by simp [hck],HO4,Hi (HBY.out _ rfl),HB4⟩
   case measure=>simp [intOf];omega
  ·obtain rfl:k=l.length:=by omega
   go_wp2;go_ret;rw [List.take_length] at HBR;exact ⟨_,c,rfl,HOW.out,HBR.out,HB.out⟩
theorem D8y (a : Option Addr) (cap : Nat) (w : World) : Calls Tryz.prog 70 #[.slice a 0 cap] w (RetT 99 w []) := by
 obtain ⟨i0,hi,hz0,hz1,hz2⟩:=info_parts A9r;have HI:=Hi (And.intro hi (And.intro hz0 (And.intro hz1 hz2)));clear hi hz0 hz1 hz2;go_enter Tryz.func70,Tryz.ntmps70;go_wp2_with (at_make;refine wpList_make_own _ rfl _ _ 51 rfl w.heap.size 99 i0 _ 12 Tryz.underlying51 HI.out.1 HI.out.2.1 HI.out.2.2.1 .i64 .i64 _ 0 rfl rfl rfl (by omega) (by unfold maxLen;omega) lr ?_;intro w5 hown hgr)
 have HOW5:=Hi (show A2a 99 w5 w.heap.size (.slice (some ⟨w.heap.size,0,none⟩) 0 0) [] from ⟨hown,fun x hx=>absurd hx (by simp)⟩);have HB5:=Hi ((Below.refl w.heap.size w).grown hgr lr (fun x hx=>by cases hx));clear hown hgr
 go_loop [3,5,11] (fun v _ i=>i=.int .i64 0/\v=.slice (some ⟨w.heap.size,0,none⟩) 0 0) (fun _ _ _=>0)
 case atStart=>exact ⟨rfl,rfl⟩
 case round =>
  obtain ⟨rfl,rfl⟩:=hrel;go_wp2;go_ret;exact ⟨_,[],rfl,HOW5.out,rfl,HB5.out⟩
theorem C3y (v : Value) (l : List Nod) (w : World) (h : A4a maxLen 12 (B6b maxLen) w [v] l) (hfew : l.length ≤ 8000000000) (hdat : ∀ i,i < l.length → (nk l i).data.length ≤ 140737488355328) :
 Calls Tryz.prog 70 #[v] w (RetT 99 w l):=by
 rcases A1g h with ⟨a,cap,rfl,rfl,_⟩|⟨b,off,cap,rfl,h1,h2,h3,h6,h4,h5⟩
 ·exact D8y a cap w
 ·exact F9u b off cap l w h1 hfew h2 h3 h4 h5 hdat
theorem F8k (b off cap : Nat) (l : List Nod) (w : World) (hpos : 0 < l.length) (hfew : l.length ≤ 8000000000) (hle : l.length ≤ cap) (hm : cap ≤ maxLen) (hc : A5p w b off l) (hok : ∀ i,i < l.length → (nk l i).Ok maxLen w) (hdat : ∀ i,i < l.length → (nk l i).data.length ≤ 140737488355328) :
 Calls Tryz.prog 73 #[.slice (some ⟨b,off,none⟩) l.length cap] w (RetTG 99 w l):=by
 obtain ⟨i0,hi,hz0,hz1,hz2⟩:=info_parts A9r;have HI:=Hi (And.intro hi (And.intro hz0 (And.intro hz1 hz2)));clear hi hz0 hz1 hz2;obtain ⟨i1,hi,hz0,hz1,hz2⟩:=info_parts C9i;have HJ:=Hi (And.intro hi (And.intro hz0 (And.intro hz1 hz2)));have HC:=Hi hc;have HK:=Hi hok;have HD:=Hi hdat;unfold maxLen at hm;clear hc hok hdat hi hz0 hz1 hz2;go_enter Tryz.func73,Tryz.ntmps73;go_wp2;go_loopw [3,4] (fun v i wr=>∃ (k:Nat) (c:List Nod),k<=l.length/\i=.int .i64 k/\c.length=k/\Hid (A2a 99 wr w.heap.size v c)/\Hid (c.map Nod.bare=(l.take k).map Nod.bare)/\Hid (Below w.heap.size w wr)/\Hid (∀ x∈c,∀ a,x.da=some a->w.heap.size<=a.block)) (fun _ i _=>l.length-(intOf i).toNat)
 case atStart=>exact ⟨0,[],by omega,rfl,rfl,Hi (A2a.nil _ _ _),Hi rfl,Hi (Below.refl _ _),Hi (fun x hx=>absurd hx (by simp))⟩
 case round =>
  obtain ⟨k,c,hk,rfl,hck,HOW,HBR,HB,HFR⟩:=hrel;by_cases hlt:k<l.length
  ·obtain ⟨h0,h1,h2,h3,h4,h5,h6,h7,h8,h9,h10,h11⟩:=(HC.out.below HB.out) k hlt;have hxl:=HD.out k hlt;have HKX:=Hi (HK.out k hlt);have HCK:=Hi (HC.out k hlt);have HBY:=Hi (fun (y:Nod) (hy:y.bare=(nk l k).bare)=>C1x HBR.out hlt hy);generalize nk l k=x at *;have HA:=Hi (HB.out.alloc HB.out.size (A4h x));have HOA:=Hi (HOW.out.below ((Below.refl wr.heap.size wr).alloc lr (A4h x)));have HNX:=Hi (B9a HKX.out HA.out HOW.out)
   go_wp2_with (first
    | (at_builtin;refine A9b _ rfl (.tmp 11) (.tmp 16) 51 51 rfl _ _ rfl rfl (fun ty=>A8g _ 51 51 ty w.heap.size 99 i0 _ 12 144 Tryz.underlying51 HI.out.1 HI.out.2.1 HI.out.2.2.1 HI.out.2.2.2 rfl (by decide) _ _ c.length 1 _ _ HOA.out.1 (B9i wr _ _ _ Tryz.underlying51 x) (by unfold maxLen;omega) (by omega) HA.out.size) ?_;intro v1 w1 ho hg hv;have HB1:=Hi (A7b HA.out hg HOA.out.1 HA.out.size);obtain ⟨g,cp,rfl,HP1⟩:=put_new HOA.out HNX.out hck ho hg hv.2;clear ho hg hv;obtain ⟨_,_,_,_,_,_,_,_,_,_,_,d11⟩:=(HCK.out.below HB1.out).below ((Below.refl w1.heap.size w1).alloc lr (.cells #[] 5)))
    | (at_builtin;refine A9b _ rfl (.tmp 20) (.tmp 25) 24 24 rfl _ _ rfl rfl (fun ty=>A1h (l:=[]) (w1.alloc (.cells #[] 5)) 24 24 5 5 i1 Tryz.underlying24 Tryz.underlying24 HJ.out.1 HJ.out.2.1 HJ.out.2.2.1 HJ.out.2.2.2 (World.ownsRow_made w1 #[] 0 lr (by unfold maxLen;omega) rfl) ((HKX.out.below HB1.out).data.below (fun _ _ h=>h) ((Below.refl w1.heap.size w1).alloc lr (.cells #[] 5))) (by simp;omega) ((Below.refl w1.heap.size w1).alloc lr (.cells #[] 5)).size ty) ?_;intro v2 w2 ho hg _;obtain ⟨da,dc,rfl,HP2⟩:=E9e HP1.out.1 hck (by unfold maxLen;omega) ho hg;have hcc:=HP2.out.2.1;have hff:=HP2.out.2.2.1;clear ho hg))
   go_roundw
   case rel=>exact ⟨k+1,c++[x.at da dc],by omega,by go_num,by simp [hck],Hi HP2.out.2.2.2.1,Hi (HBY.out _ rfl),Hi ((HB1.out.trans (HP2.out.1.mono HB1.out.size)).setCell HP2.out.2.2.2.2.1 _),Hi (fun y hy a ha=>by
    rcases List.mem_append.1 hy with h|h
    ·exact HFR.out y h a ha
    ·rw [List.mem_singleton.1 h] at ha;exact Nat.le_trans HB1.out.size (HP2.out.2.2.2.2.2 a ha))⟩
   case measure=>simp [intOf];omega
  ·obtain rfl:k=l.length:=by omega
   rw [List.take_length] at HBR;go_wp2;go_ret;exact ⟨_,c,rfl,HOW.out,HBR.out,HB.out,HFR.out⟩
theorem F8u (b off cap : Nat) (l : List Nod) (w : World) (hpos : 0 < l.length) (hfew : l.length ≤ 8000000000) (hle : l.length ≤ cap) (hm : cap ≤ maxLen) (hc : A5p w b off l) (hok : ∀ i,i < l.length → (nk l i).Ok maxLen w) (hdat : ∀ i,i < l.length → (nk l i).data.length ≤ 140737488355328) :
 Calls Tryz.prog 73 #[.slice (some ⟨b,off,none⟩) l.length cap] w (RetT 99 w l):=(F8k b off cap l w hpos hfew hle hm hc hok hdat).mono fun _ _ h=>h.ret
theorem D7y (a : Option Addr) (cap : Nat) (w : World) : Calls Tryz.prog 73 #[.slice a 0 cap] w (RetT 99 w []) := by
 go_enter Tryz.func73,Tryz.ntmps73;go_wp2
 go_loop [3,4] (fun v i=>i=.int .i64 0/\v=.slice none 0 0) (fun _ _=>0)
 case atStart=>exact ⟨rfl,rfl⟩
 case round =>
  obtain ⟨rfl,rfl⟩:=hrel;go_wp2;go_ret;exact ⟨_,[],rfl,A2a.nil _ _ _,rfl,Below.refl _ _⟩
theorem B9m (v : Value) (l : List Nod) (w : World) (h : A4a maxLen 12 (B6b maxLen) w [v] l) (hfew : l.length ≤ 8000000000) (hdat : ∀ i,i < l.length → (nk l i).data.length ≤ 140737488355328) :
 Calls Tryz.prog 73 #[v] w (RetT 99 w l):=by
 rcases A1g h with ⟨a,cap,rfl,rfl,_⟩|⟨b,off,cap,rfl,h1,h2,h3,h6,h4,h5⟩
 ·exact D7y a cap w
 ·exact F8u b off cap l w h1 hfew h2 h3 h4 h5 hdat
end Go.Proofs.YtaffgndickdbiaaGreatDoor
