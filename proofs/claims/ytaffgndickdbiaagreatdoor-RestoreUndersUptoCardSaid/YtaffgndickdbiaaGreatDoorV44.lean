/- A part of the proof. -/
import Derived.Test.YtaffgndickdbiaaGreatDoorV43
set_option linter.unusedVariables false
set_option linter.unusedSimpArgs false
set_option maxRecDepth 100000
set_option maxHeartbeats 4000000
namespace Go.Creel
open Go.RowKit
theorem F1g (x y : ByteArray) : B5w y x = - B5w x y := by
 rcases A9s x y with ⟨h1,h3⟩|⟨h1,h2,h3⟩|⟨h1,h2,h3⟩
 ·rw [h3];have hlt:=C7e.1 h3;rcases A9s y x with ⟨g1,g3⟩|⟨g1,g2,g3⟩|⟨g1,g2,g3⟩
  ·exact absurd (List.lt_trans hlt (C7e.1 g3)) (List.lt_irrefl _)
  ·have:=B0h.1 g3;subst this;exact absurd hlt (List.lt_irrefl _)
  ·rw [g3];rfl
 ·have:=B0h.1 h3;subst this;rw [h3];rfl
 ·rw [h3];rcases A9s y x with ⟨g1,g3⟩|⟨g1,g2,g3⟩|⟨g1,g2,g3⟩
  ·rw [g3]
  ·have:=B0h.1 g3;subst this;rw [D7v] at h3;cases h3
  ·exfalso;rw [Go.Proofs.bytesLess_eq] at h1 g1;have e:x.toList=y.toList:=List.le_antisymm (of_decide_eq_false g1) (of_decide_eq_false h1);rw [e] at h2;simp at h2
theorem C6t : ∀ X Y : List ByteArray,B7b Y X = - B7b X Y
 | [],[]=>rfl
 | [],_::_=>rfl
 | _::_,[]=>rfl
 | x::X,y::Y=>by
   rw [C0d,C0d,F1g x y];by_cases h:B5w x y=0
   ·rw [if_pos h,if_pos (by omega)];exact C6t X Y
   ·rw [if_neg h,if_neg (by omega)]
theorem D3r : ∀ {X Y : List ByteArray},B7b X Y = 0 → X = Y
 | [],[],_=>rfl
 | [],_::_,h=>by cases h
 | _::_,[],h=>by cases h
 | x::X,y::Y,h=>by
   rw [C0d] at h;by_cases e:B5w x y=0
   ·rw [if_pos e] at h;rw [B0h.1 e,D3r h]
   ·rw [if_neg e] at h;exact absurd h e
def A3o (s : ByteArray) (x : Nod) : Int := B7b (A8a x.path) (A8a s)
theorem B1o (s : ByteArray) (x : Nod) : A3o s x = -1 ∨ A3o s x = 0 ∨ A3o s x = 1 := B9z _ _
theorem C4t {s : ByteArray} {x y : Nod} (h : B6m x y) (hx : ¬ A3o s x = -1) : A3o s y = 1 := by
 unfold A3o at hx ⊢;unfold B6m at h;have hs:B7b (A8a s) (A8a y.path) = -1:=by
  rcases B9z (A8a x.path) (A8a s) with e|e|e
  ·exact absurd e hx
  ·rw [D3r e] at h;exact h
  ·have:=C6t (A8a x.path) (A8a s);exact D3h (by omega) h
 have:=C6t (A8a s) (A8a y.path);omega
def A6j (s : ByteArray) (x : Nod) : Bool := decide (A3o s x = -1)
def A2z (s : ByteArray) (x : Nod) : Bool := decide (A3o s x ≠ 0)
def B4z (l : List Nod) (s : ByteArray) : Nat := (l.takeWhile (A6j s)).length
def B6h (l : List Nod) (n : Nod) : List Nod := l.takeWhile (A6j n.path) ++ n :: (l.dropWhile (A6j n.path)).filter (A2z n.path)
theorem E3c (l : List Nod) (s : ByteArray) : B4z l s ≤ l.length := by
 unfold B4z;have:=congrArg List.length (List.takeWhile_append_dropWhile (p:=A6j s) (l:=l));rw [List.length_append] at this;omega
theorem E1i (l : List Nod) (s : ByteArray) : l.take (B4z l s) = l.takeWhile (A6j s) := by
 unfold B4z
 conv=>lhs;arg 2;rw [<-List.takeWhile_append_dropWhile (p:=A6j s) (l:=l)]
 rw [List.take_left]
theorem E7m (l : List Nod) (s : ByteArray) : l.drop (B4z l s) = l.dropWhile (A6j s) := by
 unfold B4z
 conv=>lhs;arg 2;rw [<-List.takeWhile_append_dropWhile (p:=A6j s) (l:=l)]
 rw [List.drop_left]
theorem pos_lt {l : List Nod} {s : ByteArray} {k : Nat} (h : k < B4z l s) : A3o s (nk l k) = -1 := by
 have hl:=E3c l s;have hm:nk l k∈l.takeWhile (A6j s):=by
  rw [<-E1i,A5m (by omega)];exact List.mem_take_iff_getElem.2 ⟨k,by omega,rfl⟩
 have:=List.all_takeWhile (p:=A6j s) (l:=l);exact of_decide_eq_true (List.all_eq_true.1 this _ hm)
theorem F4v {l : List Nod} {s : ByteArray} (h : B4z l s < l.length) : ¬ A3o s (nk l (B4z l s)) = -1 := by
 have e:=E7m l s;rw [List.drop_eq_getElem_cons h] at e;have:A6j s l[B4z l s]=false:=by
  have hne:l.dropWhile (A6j s)≠[]:=by rw [<-e];exact List.cons_ne_nil _ _
  have h1:=List.head_dropWhile_not (A6j s) hne;have h2:(l.dropWhile (A6j s)).head hne=l[B4z l s]:=by simp only [<-e,List.head_cons]
  rw [h2] at h1;simpa using h1
 rw [A5m h];exact of_decide_eq_false this
theorem pos_ge {l : List Nod} {s : ByteArray} (ho : l.Pairwise B6m) {k : Nat} (h : B4z l s < k) (hk : k < l.length) : A3o s (nk l k) = 1 := by
 refine C4t (x:=nk l (B4z l s)) ?_ (F4v (by omega));rw [A5m hk,A5m (by omega)];exact List.pairwise_iff_getElem.1 ho _ _ (by omega) hk h
theorem pos_eq {l : List Nod} {s : ByteArray} {i : Nat} (hi : i ≤ l.length) (h1 : ∀ k,k < i → A3o s (nk l k) = -1) (h2 : i < l.length → ¬ A3o s (nk l i) = -1) : B4z l s = i := by
 rcases Nat.lt_trichotomy (B4z l s) i with h|h|h
 ·exact absurd (h1 _ h) (F4v (by omega))
 ·exact h
 ·exact absurd (pos_lt h) (h2 (by have:=E3c l s;omega))
def E1y (l : List Nod) (s : ByteArray) : Bool := decide (B4z l s < l.length ∧ A3o s (nk l (B4z l s)) = 0)
theorem F4n {l : List Nod} {s : ByteArray} (ho : l.Pairwise B6m) : (l.dropWhile (A6j s)).filter (A2z s) = l.drop (B4z l s + (if E1y l s = true then 1 else 0)) := by
 rw [<-E7m];have hgt:∀ x∈l.drop (B4z l s+1),A2z s x=true:=by
  intro x hx;obtain ⟨k,hk,e⟩:=List.mem_iff_getElem.1 hx;rw [List.getElem_drop] at e;have hk':B4z l s+1+k<l.length:=by simp at hk;omega
  have:=pos_ge (s:=s) ho (k:=B4z l s+1+k) (by omega) hk';rw [A5m hk',e] at this;unfold A2z;rw [this];rfl
 by_cases hl:B4z l s<l.length
 ·rw [List.drop_eq_getElem_cons hl];have hn:nk l (B4z l s)=l[B4z l s]:=A5m hl;by_cases h0:A3o s (nk l (B4z l s))=0
  ·have ha:E1y l s=true:=decide_eq_true ⟨hl,h0⟩;rw [if_pos ha,List.filter_cons_of_neg (by unfold A2z;rw [<-hn,h0];simp),List.filter_eq_self.2 hgt]
  ·have ha:E1y l s=false:=decide_eq_false (fun h=>h0 h.2);rw [if_neg (by rw [ha];simp),List.filter_cons_of_pos (by unfold A2z;rw [<-hn];simpa using h0),List.filter_eq_self.2 hgt,<-List.drop_eq_getElem_cons hl];rfl
 ·rw [List.drop_eq_nil_of_le (by omega),List.drop_eq_nil_of_le (by omega)];rfl
theorem putL_eq {l : List Nod} {n : Nod} (ho : l.Pairwise B6m) : B6h l n = l.take (B4z l n.path) ++ n :: l.drop (B4z l n.path + (if E1y l n.path = true then 1 else 0)) := by
 unfold B6h;rw [E1i,F4n ho]
theorem D8g (l : List Nod) (n : Nod) : (B6h l n).length ≤ l.length + 1 := by
 unfold B6h;have h1:=List.length_filter_le (A2z n.path) (l.dropWhile (A6j n.path));have h2:=congrArg List.length (List.takeWhile_append_dropWhile (p:=A6j n.path) (l:=l));rw [List.length_append] at h2;rw [List.length_append,List.length_cons];omega
noncomputable def A5h (l : List Nod) (n : Nod) : List Nod × Int := if ¬ A0a l = 0 then ([],A0a l) else if ¬ A0a (B6h l n) = 0 then ([],A0a (B6h l n)) else (B6h l n,0)
theorem B4f {l : List Nod} {n : Nod} (h : ¬ A0a l = 0) : A5h l n = ([],A0a l) := by unfold A5h; rw [if_pos h]
theorem A7y {l : List Nod} {n : Nod} (h : A0a l = 0) (h2 : ¬ A0a (B6h l n) = 0) : A5h l n = ([],A0a (B6h l n)) := by unfold A5h; rw [if_neg (by simpa using h),if_pos h2]
theorem B9d {l : List Nod} {n : Nod} (h : A0a l = 0) (h2 : A0a (B6h l n) = 0) : A5h l n = (B6h l n,0) := by unfold A5h; rw [if_neg (by simpa using h),if_neg (by simpa using h2)]
theorem C2m : ∀ {l m : List Nod} (s : ByteArray),l.map Nod.bare = m.map Nod.bare → A1a l s = A1a m s
 | [],[],_,_=>rfl
 | [],_::_,_,h=>by simp at h
 | _::_,[],_,h=>by simp at h
 | x::l,y::m,s,h=>by
   simp only [List.map_cons,List.cons.injEq] at h;unfold A1a;rw [(B1f h.1).1,C2m s h.2]
theorem F1r {l m : List Nod} (h : l.map Nod.bare = m.map Nod.bare) (k : Nat) : (nk l k).bare = (nk m k).bare := by
 have hl:l.length=m.length:=by simpa using congrArg List.length h
 by_cases hk:k<l.length
 ·exact D4j h hk
 ·unfold nk;rw [List.getD_eq_getElem?_getD,List.getD_eq_getElem?_getD,List.getElem?_eq_none (by omega),List.getElem?_eq_none (by omega)]
theorem B9u {l m : List Nod} (h : l.map Nod.bare = m.map Nod.bare) (i : Nat) : A9k l i = A9k m i := by
 have hb:=F1r h;have hn:∀ k,A6c (nk l k)=A6c (nk m k):=fun k=>by
  have:A6c (nk l k).bare=A6c (nk m k).bare:=by rw [hb k]
  exact this
 have hp:∀ k,(nk l k).path=(nk m k).path:=fun k=>(B1f (hb k)).1
 have hk:∀ k,(nk l k).kind=(nk m k).kind:=fun k=>(B1f (hb k)).2.1
 have hs:∀ k,(nk l k).same=(nk m k).same:=fun k=>(B1f (hb k)).2.2.1
 have hlk:∀ j k,A5x (nk l j) (nk l k)=A5x (nk m j) (nk m k):=fun j k=>by
  have:A5x (nk l j).bare (nk l k).bare=A5x (nk m j).bare (nk m k).bare:=by rw [hb j,hb k]
  exact this
 have ht:∀ k s,A1a (l.take k) s=A1a (m.take k) s:=fun k s=>C2m s (by rw [List.map_take,List.map_take,h])
 unfold A9k;simp only [hn,hp,hk,hs,hlk,ht]
theorem C3m {l m : List Nod} (h : l.map Nod.bare = m.map Nod.bare) : A0a l = A0a m := by
 have hl:l.length=m.length:=by simpa using congrArg List.length h
 by_cases h40:40<l.length
 ·rw [A7t h40,A7t (by omega)]
 ·by_cases hz:∀ j,j<l.length->A9k l j=0
  ·rw [A3v (by omega) hz,A3v (by omega) (fun j hj=>by rw [<-B9u h];exact hz j (by omega))]
  ·have:∃ k,k<l.length/\A9k l k≠0/\∀ j,j<k->A9k l j=0:=by
    have hex:∃ k,k<l.length/\A9k l k≠0:=by
     refine Classical.byContradiction fun hne=>hz fun j hj=>Classical.byContradiction fun e=>hne ⟨j,hj,e⟩
    obtain ⟨k,hk⟩:=hex;have key:∀ n k,k<=n->(k<l.length/\A9k l k≠0)->∃ k,k<l.length/\A9k l k≠0/\∀ j,j<k->A9k l j=0:=by
     intro n;induction n with
     | zero=>intro k hk h;exact ⟨k,h.1,h.2,fun j hj=>by omega⟩
     | succ n ih =>
       intro k hk h;by_cases hall:∀ j,j<k->A9k l j=0
       ·exact ⟨k,h.1,h.2,hall⟩
       ·obtain ⟨j,hj⟩:∃ j,j<k/\A9k l j≠0:=Classical.byContradiction fun hne=>hall fun j hj=>Classical.byContradiction fun e=>hne ⟨j,hj,e⟩
        exact ih j (by omega) ⟨by omega,hj.2⟩
    exact key k k lr hk
   obtain ⟨k,h1,h2,h3⟩:=this;rw [A4v (by omega) h1 h3 rfl h2,A4v (l:=m) (k:=k) (by omega) (by omega) (fun j hj=>by rw [<-B9u h];exact h3 j hj) rfl (by rw [<-B9u h];exact h2),B9u h]
theorem E8d {l : List Ent} (hz : A0b l = 0) {i : Nat} (hi : i < l.length) : (B3b l l.length i).path.size ≤ 400 ∧ (B3b l l.length i).data.length ≤ 2000 := by
 have hE:=fun j (hj:j<l.length)=>(A5v ((A7j hz).2 j hj)).1
 have hp:∀ j,j<l.length->(ek l j).path.size<=400:=fun j hj=>by
  have h:=hE j hj;unfold A1b A7h at h;refine Classical.byContradiction fun e=>?_
  have h2:=A0o (s:=(ek l j).path) (.inr (by omega));rw [if_pos (by rw [h2];decide),h2] at h;cases h
 by_cases h:(ek l i).kind=4
 ·rw [B5e h];exact ⟨hp i hi,(B2d (hE _ (Nat.lt_trans (A8v hz hi h).1 hi))).1⟩
 ·rw [A1w h];exact ⟨hp i hi,(B2d (hE i hi)).1⟩
theorem C0z {b : List UInt8} (h : (A4j b).2 = 0) : ∀ x ∈ (A4j b).1,x.path.size ≤ 400 ∧ x.data.length ≤ 2000 := by
 obtain ⟨⟨l,e0⟩,hk⟩:∃ q,B3j b=q:=⟨_,rfl⟩;by_cases he:e0=0
 ·rw [B4n hk he] at h ⊢;by_cases hz:A0b l=0
  ·rw [B1d hz];intro x hx;obtain ⟨i,hi,rfl⟩:=List.mem_map.1 hx;exact E8d hz (List.mem_range.1 hi)
  ·rw [B7g hz] at h;exact absurd h hz
 ·rw [B9h hk he] at h;exact absurd h he
def B1v (x : Nod) (s : ByteArray) : Bool := (x.path.toList == s.toList) || B3c x.path s
theorem D2g {P : Program} (w : World) (t e ty : TypeId) (z : Value) (ht : P.underlying t = some (.slice e)) (hv : ∀ w,(zeroValue e).run P w = .ok z w) (hpos : 0 < z.cells.size) (h1 : ∀ u ∈ z.cells.toList,u.oneCell' = true) (b o n c : Nat) (hn : 0 < n)
 (hc:∀ j,j<n*z.cells.size->(w.cell? ⟨b,o+j,none⟩).isSome=true) (hf:∀ j,j<n*z.cells.size->w.frozen? ⟨b,o+j,none⟩=false) :
 (Builtin.clear_ #[t] ty #[.slice (some ⟨b,o,none⟩) n c]).run P w=.ok (.tuple #[]) (w.setCells b o (Builtin.zeroCells z.cells n).toList):=by
 have hl:(Builtin.zeroCells z.cells n).toList.length=n*z.cells.size:=by rw [Array.length_toList,size_zeroCells]
 have hst:=run_storeCells_cells (P:=P) b o (Builtin.zeroCells z.cells n).toList 0 w (by rw [hl];simpa using hc) (by rw [hl];simpa using hf) (by
  intro v hv';apply h1;simp only [Builtin.zeroCells,Array.toList_map,List.mem_map] at hv';obtain ⟨i,_,rfl⟩:=hv';have:i % z.cells.size<z.cells.size:=Nat.mod_lt _ hpos;rw [getElem!_pos z.cells _ this];exact Array.getElem_mem_toList this)
 simp only [Nat.add_zero] at hst;obtain ⟨m,rfl⟩:∃ m,n=m+1:=⟨n-1,by omega⟩;simp [Builtin.clear_,run_underlying ht,hv,hst]
theorem D9t : ∀ (l : List Nod) (i : Nat),(l.flatMap Nod.cells).take (i * 12) = (l.take i).flatMap Nod.cells
 | [],i=>by simp
 | x::r,0=>by simp
 | x::r,i+1=>by
   rw [List.flatMap_cons,List.take_succ_cons,List.flatMap_cons,<-D9t r i,List.take_append];have e:(i+1)*12-x.cells.length=i*12:=by rw [Nod.cells_len];omega
   rw [e,List.take_of_length_le (by rw [Nod.cells_len];omega)]
theorem A2a.cutAt {t : TypeId} {w : World} {B g cap i n : Nat} {m : List Nod} (h : A2a t w B (.slice (some ⟨g,0,none⟩) n cap) m) (hm : m.length = n) (hi : i ≤ n) (zs : List Value) (hz : i * 12 + zs.length ≤ n * 12) :
 A2a t (w.setCells g (i*12) zs) B (.slice (some ⟨g,0,none⟩) i cap) (m.take i)/\w.grownBy (w.setCells g (i*12) zs) (some g):=by
 subst hm;obtain ⟨m1,m2,m3,m4⟩:=B8c g zs (i*12) w;have hg:w.grownBy (w.setCells g (i*12) zs) (some g):=⟨m1,m2,m3,by omega,fun k _ hk=>B0a g zs _ w k (fun e=>hk (by rw [e]))⟩;refine ⟨⟨?_,fun x hx=>?_⟩,hg⟩
 ·have hl:(m.take i).length=i:=by rw [List.length_take];omega
  rw [hl];refine ⟨by rw [C1e,hl],?_⟩;rcases h.1.2 with ⟨h',_⟩|⟨g',cap',cur,h',hb,hgg,hnc,hcm,hcs,htake⟩
  ·cases h'
  ·simp only [Value.slice.injEq,Option.some.injEq,Addr.mk.injEq,and_true,true_and] at h';obtain ⟨rfl,rfl⟩:=h';have hfit:i*12+zs.length<=cur.size:=by rw [hcs];omega
   obtain ⟨cur',a1,a2,a3⟩:=B7r g zs (i*12) w cur hgg hfit;refine .inr ⟨g,cap,cur',rfl,hb,a1,by omega,hcm,a2.trans hcs,?_⟩;have e1:cur'.toList.take (i*12)=cur.toList.take (i*12):=by
    have e2:=congrArg (List.take (i*12)) a3;rw [List.take_take,Nat.min_eq_left (by omega),List.take_left' (by rw [List.length_take,Array.length_toList];omega)] at e2;exact e2
   rw [e1,<-D9t,<-htake,List.take_take,Nat.min_eq_left (by omega)]
 ·have hin:=h.2 x (List.mem_of_mem_take hx);exact ⟨hin.1.grown hg hin.2,hin.2⟩
def C8k (p : Nod → Bool) (c m : List Nod) (i j : Nat) : Prop := m.length = c.length ∧ m.take i = (c.take j).filter p ∧ (∀ q,j ≤ q → q < c.length → nk m q = nk c q) ∧ i < j
theorem C8k.start {p : Nod → Bool} {c : List Nod} {k : Nat} (hk : k < c.length) (h1 : ∀ j,j < k → p (nk c j) = true) (h2 : p (nk c k) = false) : C8k p c c k (k + 1) := by
 refine ⟨rfl,?_,fun _ _ _=>rfl,by omega⟩;rw [C0h hk,List.filter_append,List.filter_cons_of_neg (by simpa using h2)];simp only [List.filter_nil,List.append_nil]
 symm
 rw [List.filter_eq_self];intro a ha;obtain ⟨j,hj,rfl⟩:=List.mem_iff_getElem.1 ha;rw [List.length_take] at hj;rw [List.getElem_take,<-A5m (by omega)];exact h1 j (by omega)
theorem C8k.skip {p : Nod → Bool} {c m : List Nod} {i j : Nat} (h : C8k p c m i j) (hj : j < c.length) (h2 : p (nk c j) = false) : C8k p c m i (j + 1) := by
 obtain ⟨a1,a2,a3,a4⟩:=h;refine ⟨a1,?_,fun q hq hl=>a3 q (by omega) hl,by omega⟩;rw [C0h hj,List.filter_append,List.filter_cons_of_neg (by simpa using h2),a2];simp
theorem C8k.keep {p : Nod → Bool} {c m : List Nod} {i j : Nat} (h : C8k p c m i j) (hj : j < c.length) (h2 : p (nk c j) = true) : C8k p c (m.set i (nk c j)) (i + 1) (j + 1) := by
 obtain ⟨a1,a2,a3,a4⟩:=h;refine ⟨by rw [List.length_set];exact a1,?_,fun q hq hl=>?_,by omega⟩
 ·rw [C0h hj,List.filter_append,List.filter_cons_of_pos h2,<-a2,List.take_succ_eq_append_getElem (by rw [List.length_set];omega),List.take_set_of_le lr];simp
 ·rw [D5s (by omega),if_neg (by omega)];exact a3 q (by omega) hl
theorem C8k.done {p : Nod → Bool} {c m : List Nod} {i : Nat} (h : C8k p c m i c.length) : m.take i = c.filter p := by
 rw [h.2.1,List.take_length]
end Go.Creel
namespace Go.Proofs.YtaffgndickdbiaaGreatDoor
open Go.Creel Go.RowKit
abbrev E2s : Value := .agg #[.string ⟨#[]⟩,.int .i64 0,.int .i64 0,.string ⟨#[]⟩,.int .i64 0,.int .i64 0,.int .i64 0,.string ⟨#[]⟩,.string ⟨#[]⟩,.int .i64 0,.int .i64 0,.slice none 0 0]
theorem E3o (x : Nod) (pb : Nat) (s : ByteArray) (w : World) (hc : w.cell? ⟨pb,0,none⟩ = some (.string s)) (hlt : pb < w.heap.size) (hs : s.size ≤ 4000000000) :
 Calls Tryz.prog 139 #[x.val,.pointer (some ⟨pb,0,none⟩)] w fun e w'=>e=.returned (.bool (B1v x s))/\Below w.heap.size w w':=by
 have HB:=Hi fun o:Obj=>(Below.refl w.heap.size w).alloc lr o
 by_cases he:x.path=s
 ·have hb:=B3n he;have HF:=Hi (show B1v x s=true by unfold B1v;rw [hb];rfl);clear he;go_enter Tryz.func139,Tryz.ntmps139;go_wp2;go_ret;exact ⟨C9y HF.out,HB.out _⟩
 ·have hb:=A5w he;have HF:=Hi (show B1v x s=B3c x.path s by unfold B1v;rw [hb];rfl);have HP:=Hi (fun w:World=>In_any x.path s w hs);clear he;go_enter Tryz.func139,Tryz.ntmps139;go_wp2_with fail
  refine (HP.out _).mono ?_;rintro e w1 ⟨rfl,rfl⟩;generalize B3c x.path s=q at *;go_wp2;go_ret;exact ⟨C9y HF.out,HB.out _⟩
theorem E0h (b off cap n : Nat) (l : List Nod) (pb : Nat) (s : ByteArray) (w : World) (hn : l.length = n) (hle : n ≤ cap) (hm : cap ≤ maxLen) (hc : A5p w b off l) (hp : w.cell? ⟨pb,0,none⟩ = some (.string s)) (hlt : pb < w.heap.size) (hs : s.size ≤ 4000000000) :
 Calls Tryz.prog 131 #[.slice (some ⟨b,off,none⟩) n cap,.func (.func 139) #[] #[.pointer (some ⟨pb,0,none⟩)]] w fun e w'=>Below w.heap.size w w' ∧
  ((∃ k:Nat,k<n/\e=.returned (.int .i64 k)/\B1v (nk l k) s=true/\∀ j,j<k->B1v (nk l j) s=false)\/(e=.returned (.int .i64 (-1))/\∀ j,j<n->B1v (nk l j) s=false)):=by
 unfold maxLen at hm;have HN:=Hi hn;have HC:=Hi hc;have HP:=Hi hp;have HPL:=Hi hlt;clear hc hp hlt hn;go_enter Tryz.func131,Tryz.ntmps131;go_wp2;go_loopw [5,8] (fun _ i wr=>∃ k:Nat,k<=n/\i=.int .i64 k/\Hid (∀ j,j<k->B1v (nk l j) s=false)/\Hid (Below w.heap.size w wr)) (fun _ i _=>n-(intOf i).toNat)
 case atStart=>exact ⟨0,by omega,rfl,Hi fun j hj=>absurd hj (by omega),Hi (Below.refl _ _)⟩
 case round =>
  obtain ⟨k,hk,rfl,HD,HB⟩:=hrel;by_cases hlt:k<n
  ·obtain ⟨h0,h1,h2,h3,h4,h5,h6,h7,h8,h9,h10,h11⟩:=(HC.out.below HB.out) k (by rw [HN.out];exact hlt);have HFC:=Hi (E3o (nk l k) pb s wr ((HB.out.cell (p:=⟨pb,0,none⟩) HPL.out).trans HP.out) (Nat.lt_of_lt_of_le HPL.out HB.out.size) hs);generalize hx:nk l k=x at HFC h0 h1 h2 h3 h4 h5 h6 h7 h8 h9 h10 h11;have HX:=Hi hx;clear hx;by_cases he:B1v x s=true
   ·rw [he] at HFC;have HE:=Hi he;clear he;go_wp2_with (go_at_call 139;refine HFC.out.mono ?_;rintro e w' ⟨rfl,hb2⟩;have HB2:=Hi (HB.out.trans (hb2.mono HB.out.size));clear hb2)
    go_ret;exact ⟨HB2.out,.inl ⟨k,hlt,rfl,by rw [HX.out];exact HE.out,HD.out⟩⟩
   ·have hf:B1v x s=false:=by simpa using he
    rw [hf] at HFC;have HE:=Hi hf;clear he hf;go_wp2_with (go_at_call 139;refine HFC.out.mono ?_;rintro e w' ⟨rfl,hb2⟩;have HB2:=Hi (HB.out.trans (hb2.mono HB.out.size));clear hb2)
    go_roundw
    case rel=>exact ⟨k+1,by omega,by go_num,Hi fun j hj=>by
     by_cases e:j=k
     ·rw [e,HX.out];exact HE.out
     ·exact HD.out j (by omega),HB2⟩
    case measure=>simp [intOf];omega
  ·obtain rfl:k=n:=by omega
   go_wp2;go_ret;exact ⟨HB.out,.inr ⟨rfl,HD.out⟩⟩
theorem D5y (g cap n B pb : Nat) (c : List Nod) (s : ByteArray) (w : World) (hn : c.length = n) (hpos : 0 < n) (hfew : n ≤ 8000000000) (ho : A2a 99 w B (.slice (some ⟨g,0,none⟩) n cap) c) (hle : n ≤ cap) (hm : cap ≤ maxLen) (hBw : B ≤ w.heap.size) (hp : w.cell? ⟨pb,0,none⟩ = some (.string s)) (hlt : pb < B) (hs : s.size ≤ 4000000000) :
 Calls Tryz.prog 138 #[.slice (some ⟨g,0,none⟩) n cap,.func (.func 139) #[] #[.pointer (some ⟨pb,0,none⟩)]] w fun e w'=>∃ v,e=.returned v/\A2a 99 w' B v (c.filter fun x => !B1v x s)/\Below B w w':=by
 have hat:A5p w g 0 c:=fun i hi=>by rw [Nat.zero_add];subst hn;exact ho.nodAt hi
 have HIX:=Hi (E0h g 0 cap n c pb s w hn hle hm hat hp (Nat.lt_of_lt_of_le hlt hBw) hs);have HN:=Hi hn;have HO:=Hi ho;have HP:=Hi hp;have HPL:=Hi hlt;have HBW:=Hi hBw;unfold maxLen at hm;clear ho hp hlt hn hat hBw;go_enter Tryz.func138,Tryz.ntmps138;go_wp2_with fail
 refine HIX.out.mono ?_;rintro e w1 ⟨hb,hcase⟩;have HB1:=Hi hb;clear hb;rcases hcase with ⟨k,hk,rfl,h1,h2⟩|⟨rfl,h2⟩
 ·have HO1:=Hi (HO.out.below HB1.out);have HD1:=Hi (C8k.start (p:=fun x => !B1v x s) (c:=c) (by rw [HN.out];exact hk) (fun j hj=>by simp [h2 j hj]) (by simp [h1]));have HBB:=Hi (HB1.out.mono HBW.out);have hkm:((k:Int) == -1)=false:=by rw [beq_eq_false_iff_ne];omega
  clear h1 h2;go_wp2;go_loopw [5,6,7] (fun i j _ wr=>∃ (a q:Nat) (m:List Nod),q<=n/\a<q/\i=.int .i64 a/\j=.int .i64 q/\Hid (A2a 99 wr B (.slice (some ⟨g,0,none⟩) n cap) m)/\Hid (C8k (fun x => !B1v x s) c m a q)/\Hid (Below B w wr)) (fun _ j _ _=>n-(intOf j).toNat)
  case atStart=>exact ⟨k,k+1,c,by omega,by omega,rfl,by go_num,HO1,HD1,HBB⟩
  case round =>
   obtain ⟨a,q,m,hq,haq,rfl,rfl,HOM,HDM,HBM⟩:=hrel;by_cases hlt:q<n
   ·have hml:m.length=n:=HDM.out.1.trans HN.out;have hcn:c.length=n:=HN.out;have hxq:=HDM.out.2.2.1 q lr (by omega);have HGB:=Hi ((World.ownsRow.lt HOM.out.1 g rfl).1);have HIN:=Hi (HOM.out.nodInN hml hlt);have HKE:=Hi (fun h=>HDM.out.keep (j:=q) (by omega) h);have HSK:=Hi (fun h=>HDM.out.skip (j:=q) (by omega) h);have hnq:=HOM.out.nodAtN hml hlt;rw [hxq] at HIN hnq;obtain ⟨h0,h1,h2,h3,h4,h5,h6,h7,h8,h9,h10,h11⟩:=hnq;clear hxq hcn;generalize nk c q=x at *;have HBX:=Hi ((Below.refl wr.heap.size wr).alloc lr (A4h x));have HFC:=Hi (E3o x pb s (wr.alloc (A4h x)) ((HBX.out.cell (p:=⟨pb,0,none⟩) (Nat.lt_of_lt_of_le HPL.out (Nat.le_trans HBW.out HBM.out.size))).trans ((HBM.out.cell (p:=⟨pb,0,none⟩) HPL.out).trans HP.out)) (Nat.lt_of_lt_of_le HPL.out (Nat.le_trans HBW.out (Nat.le_trans HBM.out.size HBX.out.size))) hs);have HBZ:=Hi (A8t wr x 99);by_cases he:B1v x s=true
    ·rw [he] at HFC;have HSK2:=Hi (HSK.out (by simp [he]));clear he;go_wp2_with (go_at_call 139;refine HFC.out.mono ?_;rintro e w3 ⟨rfl,hb3⟩;have HB3:=Hi (HBX.out.trans (hb3.mono HBX.out.size));clear hb3)
     go_roundw
     case rel=>exact ⟨a,q+1,m,by omega,by omega,rfl,by go_num,Hi (HOM.out.below HB3.out),HSK2,Hi (HBM.out.trans (HB3.out.mono (Nat.le_trans HBW.out HBM.out.size)))⟩
     case measure=>simp [intOf];omega
    ·have hf:B1v x s=false:=by simpa using he
     rw [hf] at HFC;have HKE2:=Hi (HKE.out (by simp [hf]));clear he hf;go_wp2_with (go_at_call 139;refine HFC.out.mono ?_;rintro e w3 ⟨rfl,hb3⟩;have HB3:=Hi (HBX.out.trans (hb3.mono HBX.out.size));obtain ⟨c0,c1,c2,c3,c4,c5,c6,c7,c8,c9,c10,c11⟩:=(HBZ.out.below hb3).zero;clear hb3;have HO3:=Hi (HOM.out.below HB3.out);obtain ⟨e0,e1,e2,e3,e4,e5,e6,e7,e8,e9,e10,e11⟩:=HO3.out.nodAtN hml (k:=a) (by omega);have f0:=HO3.out.frozenAtN hml (a*12);have f1:=HO3.out.frozenAtN hml (a*12+1);have f2:=HO3.out.frozenAtN hml (a*12+2);have f3:=HO3.out.frozenAtN hml (a*12+3);have f4:=HO3.out.frozenAtN hml (a*12+4);have f5:=HO3.out.frozenAtN hml (a*12+5);have f6:=HO3.out.frozenAtN hml (a*12+6);have f7:=HO3.out.frozenAtN hml (a*12+7);have f8:=HO3.out.frozenAtN hml (a*12+8);have f9:=HO3.out.frozenAtN hml (a*12+9);have f10:=HO3.out.frozenAtN hml (a*12+10);have f11:=HO3.out.frozenAtN hml (a*12+11);have HPN:=Hi (HO3.out.putNode hml (k:=a) (by omega) (HIN.out.below HB3.out)))
     go_roundw
     case rel=>exact ⟨a+1,q+1,_,by omega,by omega,by go_num,by go_num,Hi HPN.out.1,HKE2,Hi ((HBM.out.trans (HB3.out.mono (Nat.le_trans HBW.out HBM.out.size))).grown HPN.out.2 (Nat.le_trans HBW.out (Nat.le_trans HBM.out.size HB3.out.size)) (fun k hk=>by cases hk;exact HGB.out))⟩
     case measure=>simp [intOf];omega
   ·obtain rfl:q=n:=by omega
    have hml:m.length=q:=HDM.out.1.trans HN.out;have HDN:=Hi (show m.take a=c.filter fun x => !B1v x s from C8k.done (by rw [HN.out];exact HDM.out));have HGB:=Hi ((World.ownsRow.lt HOM.out.1 g rfl).1);have hcl:∀ ty,(Builtin.clear_ #[51] ty #[.slice (some ⟨g,a*12,none⟩) (q-a) (cap-a)]).run Tryz.prog wr=.ok (.tuple #[]) (wr.setCells g (a*12) (Builtin.zeroCells (E2s.cells) (q-a)).toList):=fun ty =>
     D2g wr _ _ ty E2s Tryz.underlying51 (fun w=>Tryz.zeroValue99 w) (by decide) (by intro u hu;simp [E2s,Value.cells] at hu;rcases hu with rfl|rfl|rfl|rfl|rfl|rfl|rfl|rfl|rfl|rfl|rfl|rfl<;>rfl) g (a*12) (q-a) (cap-a) (by omega) (fun j hj=>HOM.out.someAt hml (by have:E2s.cells.size=12:=rfl;rw [this] at hj;omega)) (fun j hj=>HOM.out.frozenAtN hml _)
    have HCA:=Hi (HOM.out.cutAt hml (i:=a) (by omega) (Builtin.zeroCells (E2s.cells) (q-a)).toList (by rw [Array.length_toList,size_zeroCells];have:E2s.cells.size=12:=rfl;rw [this];omega));go_wp2;go_ret;exact ⟨_,rfl,by rw [<-HDN.out];exact HCA.out.1,HBM.out.grown HCA.out.2 (Nat.le_trans HBW.out HBM.out.size) (fun k hk=>by cases hk;exact HGB.out)⟩
 ·have HF:=Hi (show c.filter (fun x => !B1v x s)=c by
   rw [List.filter_eq_self];intro x hx;obtain ⟨j,hj,rfl⟩:=List.mem_iff_getElem.1 hx;rw [<-A5m hj,h2 j (by rw [<-HN.out];exact hj)];rfl)
  clear h2;go_wp2;go_ret;exact ⟨_,rfl,by rw [HF.out];exact HO.out.below HB1.out,HB1.out.mono HBW.out⟩
end Go.Proofs.YtaffgndickdbiaaGreatDoor
