/- A part of the proof. -/
import Derived.Test.YtaffgndickdbiaaGreatDoorV41
set_option linter.unusedVariables false
set_option linter.unusedSimpArgs false
set_option maxRecDepth 100000
set_option maxHeartbeats 8000000
namespace Go.Creel
open Go.RowKit
theorem D3i {w w1 w2 : World} {row : Option Nat} (h1 : w.grownBy w1 row) (h2 : w1.grownBy w2 row) : w.grownBy w2 row := by
 obtain ⟨a1,a2,a3,a4,a5⟩:=h1;obtain ⟨b1,b2,b3,b4,b5⟩:=h2;exact ⟨b1.trans a1,b2.trans a2,b3.trans a3,Nat.le_trans a4 b4,fun k hk hne=>(b5 k (Nat.lt_of_lt_of_le hk a4) hne).trans (a5 k hk hne)⟩
theorem F1n (m : List Nod) (k : Nat) (hk : k < m.length) : m.set k (nk m k) = m := by
 rw [A5m hk,List.set_getElem_self]
theorem A3u {t : TypeId} {w0 w : World} {B g cap k j : Nat} {m : List Nod} {y : Nod} (h : w.ownsRow B t 12 (.slice (some ⟨g,0,none⟩) m.length cap) m.length ((m.set k y).flatMap Nod.cells) ∧ w0.grownBy w (some g)) (hk : k < m.length) (hj : j < 12) (y' : Nod) (u : Value) (hy : y'.cells = y.cells.set j u) :
 (w.setCell ⟨g,k*12+j,none⟩ u).ownsRow B t 12 (.slice (some ⟨g,0,none⟩) m.length cap) m.length ((m.set k y').flatMap Nod.cells)/\w0.grownBy (w.setCell ⟨g,k*12+j,none⟩ u) (some g):=by
 obtain ⟨h1,h2⟩:=h.1.stored (k*12+j) u;rw [D6i (m.set k y) k j y' u (by rw [List.length_set];exact hk) hj (by rw [D5s hk,if_pos rfl];exact hy),List.set_set] at h1;exact ⟨h1,D3i h.2 h2⟩
abbrev E8z (w : World) (g o : Nat) (x : Nod) : World := (((((((((((w.setCell ⟨g,o,none⟩ (.string x.path)).setCell ⟨g,o + 1,none⟩ (.int .i64 x.kind)).setCell ⟨g,o + 2,none⟩ (.int .i64 x.same)).setCell ⟨g,o + 3,none⟩ (.string x.target)).setCell ⟨g,o + 4,none⟩ (.int .i64 x.mt.mode)).setCell ⟨g,o + 5,none⟩ (.int .i64 x.mt.uid)).setCell ⟨g,o + 6,none⟩ (.int .i64 x.mt.gid)).setCell ⟨g,o + 7,none⟩ (.string x.mt.user)).setCell ⟨g,o + 8,none⟩ (.string x.mt.group)).setCell ⟨g,o + 9,none⟩ (.int .i64 x.mt.second)).setCell ⟨g,o + 10,none⟩ (.int .i64 x.mt.nano)).setCell ⟨g,o + 11,none⟩ (.slice x.da x.data.length x.dcap)
theorem A2a.putNode {t : TypeId} {w : World} {B g cap k n : Nat} {m : List Nod} {x : Nod} (h : A2a t w B (.slice (some ⟨g,0,none⟩) n cap) m) (hm : m.length = n) (hk : k < n) (hx : B3r w (.slice (some ⟨g,0,none⟩) n cap) x) :
 A2a t (E8z w g (k*12) x) B (.slice (some ⟨g,0,none⟩) n cap) (m.set k x)/\w.grownBy (E8z w g (k*12) x) (some g):=by
 subst hm;have h0:w.ownsRow B t 12 (.slice (some ⟨g,0,none⟩) m.length cap) m.length ((m.set k (nk m k)).flatMap Nod.cells)/\w.grownBy w (some g):=⟨by rw [F1n m k hk];exact h.1,World.grownBy.refl w _⟩;generalize nk m k=y at h0;obtain ⟨p,kd,sm,tg,mt,da,dc,dt⟩:=y;obtain ⟨a1,a2,a3,a4,a5,a6,a7⟩:=mt;have s0:=A3u h0 hk (j:=0) (by omega) ⟨x.path,kd,sm,tg,⟨a1,a2,a3,a4,a5,a6,a7⟩,da,dc,dt⟩ (.string x.path) rfl;have s1:=A3u s0 hk (j:=1) (by omega) ⟨x.path,x.kind,sm,tg,⟨a1,a2,a3,a4,a5,a6,a7⟩,da,dc,dt⟩ (.int .i64 x.kind) rfl;have s2:=A3u s1 hk (j:=2) (by omega) ⟨x.path,x.kind,x.same,tg,⟨a1,a2,a3,a4,a5,a6,a7⟩,da,dc,dt⟩ (.int .i64 x.same) rfl;have s3:=A3u s2 hk (j:=3) (by omega) ⟨x.path,x.kind,x.same,x.target,⟨a1,a2,a3,a4,a5,a6,a7⟩,da,dc,dt⟩ (.string x.target) rfl;have s4:=A3u s3 hk (j:=4) (by omega) ⟨x.path,x.kind,x.same,x.target,⟨x.mt.mode,a2,a3,a4,a5,a6,a7⟩,da,dc,dt⟩ (.int .i64 x.mt.mode) rfl;have s5:=A3u s4 hk (j:=5) (by omega) ⟨x.path,x.kind,x.same,x.target,⟨x.mt.mode,x.mt.uid,a3,a4,a5,a6,a7⟩,da,dc,dt⟩ (.int .i64 x.mt.uid) rfl;have s6:=A3u s5 hk (j:=6) (by omega) ⟨x.path,x.kind,x.same,x.target,⟨x.mt.mode,x.mt.uid,x.mt.gid,a4,a5,a6,a7⟩,da,dc,dt⟩ (.int .i64 x.mt.gid) rfl;have s7:=A3u s6 hk (j:=7) (by omega) ⟨x.path,x.kind,x.same,x.target,⟨x.mt.mode,x.mt.uid,x.mt.gid,x.mt.user,a5,a6,a7⟩,da,dc,dt⟩ (.string x.mt.user) rfl;have s8:=A3u s7 hk (j:=8) (by omega) ⟨x.path,x.kind,x.same,x.target,⟨x.mt.mode,x.mt.uid,x.mt.gid,x.mt.user,x.mt.group,a6,a7⟩,da,dc,dt⟩ (.string x.mt.group) rfl;have s9:=A3u s8 hk (j:=9) (by omega) ⟨x.path,x.kind,x.same,x.target,⟨x.mt.mode,x.mt.uid,x.mt.gid,x.mt.user,x.mt.group,x.mt.second,a7⟩,da,dc,dt⟩ (.int .i64 x.mt.second) rfl;have s10:=A3u s9 hk (j:=10) (by omega) ⟨x.path,x.kind,x.same,x.target,⟨x.mt.mode,x.mt.uid,x.mt.gid,x.mt.user,x.mt.group,x.mt.second,x.mt.nano⟩,da,dc,dt⟩ (.int .i64 x.mt.nano) rfl;have s11:=A3u s10 hk (j:=11) (by omega) x (.slice x.da x.data.length x.dcap) rfl;refine ⟨⟨by rw [List.length_set];exact s11.1,fun z hz=>?_⟩,s11.2⟩;have hin:B3r w (.slice (some ⟨g,0,none⟩) m.length cap) z:=by
  rcases List.mem_or_eq_of_mem_set hz with a|a
  ·exact h.2 z a
  ·rw [a];exact hx
 exact ⟨hin.1.grown s11.2 hin.2,hin.2⟩
theorem A2a.nodAtN {t : TypeId} {w : World} {B g cap n k : Nat} {m : List Nod} (h : A2a t w B (.slice (some ⟨g,0,none⟩) n cap) m) (hm : m.length = n) (hk : k < n) : B4u w g (k * 12) (nk m k) := by
 subst hm;exact h.nodAt hk
theorem A2a.nodInN {t : TypeId} {w : World} {B g cap n k : Nat} {m : List Nod} (h : A2a t w B (.slice (some ⟨g,0,none⟩) n cap) m) (hm : m.length = n) (hk : k < n) : B3r w (.slice (some ⟨g,0,none⟩) n cap) (nk m k) := by
 subst hm;exact h.nodIn hk
theorem A2a.frozenAtN {t : TypeId} {w : World} {B g cap n : Nat} {m : List Nod} (h : A2a t w B (.slice (some ⟨g,0,none⟩) n cap) m) (hm : m.length = n) (j : Nat) : w.frozen? ⟨g,j,none⟩ = false := by
 subst hm;exact h.1.frozenAt j
theorem A2a.someAt {t : TypeId} {w : World} {B g cap n j : Nat} {m : List Nod} (h : A2a t w B (.slice (some ⟨g,0,none⟩) n cap) m) (hm : m.length = n) (hj : j < n * 12) : (w.cell? ⟨g,j,none⟩).isSome = true := by
 subst hm;rw [h.1.cellAt j hj,List.getElem?_eq_getElem (by rw [C1e];exact hj)];rfl
theorem A2a.putSame {t : TypeId} {w : World} {B g cap n k : Nat} {m : List Nod} (h : A2a t w B (.slice (some ⟨g,0,none⟩) n cap) m) (hm : m.length = n) (hk : k < n) (s : Int) (hs : i64 s) :
 A2a t (w.setCell ⟨g,k*12+2,none⟩ (.int .i64 s)) B (.slice (some ⟨g,0,none⟩) n cap) (m.set k { nk m k with same:=s })/\w.cell? ⟨g,k*12+2,none⟩=some (.int .i64 (nk m k).same)/\w.frozen? ⟨g,k*12+2,none⟩=false/\B<=g:=by
 subst hm;have hx:=h.nodIn hk;obtain ⟨_,_,h2,_⟩:=h.nodAt hk;exact ⟨(h.put (k:=k) (j:=2) hk (by omega) { nk m k with same:=s } (.int .i64 s) rfl ⟨⟨hx.1.path,hx.1.kind,hs,hx.1.target,hx.1.mt,hx.1.data⟩,hx.2⟩).1,h2,h.1.frozenAt _,(World.ownsRow.lt h.1 g rfl).1⟩
theorem Ent.nod_ok {w : World} {x : Ent} (h : x.Ok maxLen w) {s : Int} (hs : i64 s) : (x.nod s).Ok maxLen w := ⟨h.path,h.kind,hs,h.target,h.mt,h.data⟩
theorem D4i {w : World} {l : List Ent} (hz : A0b l = 0) (hok : ∀ i,i < l.length → (ek l i).Ok maxLen w) {q i : Nat} (hi : i < l.length) : (B3b l q i).Ok maxLen w := by
 have hfew:=(A7j hz).1;by_cases hk:(ek l i).kind=4
 ·obtain ⟨h1,_⟩:=A8v hz hi hk;rw [B5e hk];have h2:=Ent.nod_ok (hok _ (show A3j l i<l.length by omega)) (s:=(A3j l i:Int)+1) (by unfold i64;omega);exact ⟨(hok i hi).path,h2.kind,h2.same,h2.target,h2.mt,h2.data⟩
 ·rw [A1w hk];exact Ent.nod_ok (hok i hi) (by unfold i64;split<;>omega)
theorem F6p {w : World} {l : List Ent} (hz : A0b l = 0) (hok : ∀ i,i < l.length → (ek l i).Ok maxLen w) {q : Nat} (hq : q ≤ l.length) : ∀ x,x ∈ A9u l q → x.Ok maxLen w := by
 intro x hx;obtain ⟨i,hi,rfl⟩:=List.mem_map.1 hx;exact D4i hz hok (by have:=List.mem_range.1 hi;omega)
theorem B5v {t : TypeId} {w0 W W' : World} {B : Nat} {v : Value} {l : List Nod} {row : Option Nat} (h : A2a t W B v l) (hg : W.grownBy W' row) (hne : v.ownBlock = none ∨ v.ownBlock ≠ row) (hx : ∀ x,x ∈ l → x.Ok maxLen w0) (hb : Below w0.heap.size w0 W') : A2a t W' B v l :=
 ⟨World.ownsRow.kept h.1 hg hne,fun x hxl=>⟨(hx x hxl).below hb,(h.2 x hxl).2⟩⟩
theorem F5g {t : TypeId} {w0 w : World} {x : Nod} (hx : x.Ok maxLen w0) (hb : Below w0.heap.size w0 w) : A2a t (w.alloc (.cells #[.string x.path,.int .i64 x.kind,.int .i64 x.same,.string x.target,.int .i64 x.mt.mode,.int .i64 x.mt.uid,.int .i64 x.mt.gid,.string x.mt.user,.string x.mt.group,.int .i64 x.mt.second,.int .i64 x.mt.nano,.slice x.da x.data.length x.dcap] t)) w.heap.size (.slice (some ⟨w.heap.size,0,none⟩) 1 1) [x] := by
 refine ⟨⟨rfl,.inr ⟨w.heap.size,1,_,rfl,Nat.le_refl _,heap_alloc_new w _,Nat.le_refl _,by unfold maxLen;omega,rfl,rfl⟩⟩,fun y hy=>?_⟩;rw [List.mem_singleton.1 hy];refine ⟨(hx.below hb).below ((Below.refl _ _).alloc lr _),fun a hp ha e=>?_⟩;have h1:=hx.lt a hp ha;have h2:=hb.size;simp [Value.ownBlock] at e;omega
theorem B8m.grown {w w' : World} {b o : Nat} {x : Ent} {row : Option Nat} (h : B8m w b o x) (hg : w.grownBy w' row) (hne : some b ≠ row) : B8m w' b o x := by
 obtain ⟨h0,h1,h2,h3,h4,h5,h6,h7,h8,h9,h10⟩:=h;exact ⟨hg.cell h0 hne,hg.cell h1 hne,hg.cell h2 hne,hg.cell h3 hne,hg.cell h4 hne,hg.cell h5 hne,hg.cell h6 hne,hg.cell h7 hne,hg.cell h8 hne,hg.cell h9 hne,hg.cell h10 hne⟩
theorem A0i.grown {κ : Type} [DecidableEq κ] {mk : κ → Value} {w w' : World} {b : Nat} {l : List (κ × Value)} {row : Option Nat} (h : A0i mk w b l) (hg : w.grownBy w' row) (hne : some b ≠ row) : A0i mk w' b l := h.of_heap (hg.block b h.lt hne)
theorem D7t {l : List Ent} (hz : A0b l = 0) : ∀ i,i < (A4n l).length → (nk (A4n l) i).data.length ≤ 140737488355328 := by
 intro i hi;unfold A4n at hi ⊢;rw [A1k] at hi;rw [E2m l hi];have hd:∀ j,j<l.length->(ek l j).data.length<=2000:=fun j hj=>(B2d (A5v ((A7j hz).2 j hj)).1).1
 by_cases hk:(ek l i).kind=4
 ·obtain ⟨h1,_⟩:=A8v hz hi hk;rw [B5e hk];exact Nat.le_trans (hd _ (show A3j l i<l.length by omega)) (by omega)
 ·rw [A1w hk];exact Nat.le_trans (hd i hi) (by omega)
abbrev B3y (t : TypeId) (x : Ent) : Obj := .cells #[.string x.path,.int .i64 x.kind,.string x.target,.int .i64 x.mt.mode,.int .i64 x.mt.uid,.int .i64 x.mt.gid,.string x.mt.user,.string x.mt.group,.int .i64 x.mt.second,.int .i64 x.mt.nano,.slice x.da x.data.length x.dcap] t
abbrev C0u (t : TypeId) (x : Nod) : Obj := .cells #[.string x.path,.int .i64 x.kind,.int .i64 x.same,.string x.target,.int .i64 x.mt.mode,.int .i64 x.mt.uid,.int .i64 x.mt.gid,.string x.mt.user,.string x.mt.group,.int .i64 x.mt.second,.int .i64 x.mt.nano,.slice x.da x.data.length x.dcap] t
structure TwoAt (te tn : TypeId) (w0 wr W : World) (mb b1 : Nat) (v : Value) (m : List (ByteArray × Value)) (x : Ent) (c : List Nod) : Prop where
 own:A2a tn W (mb+1) v c
 box:A2a tn W (b1+1) (.slice (some ⟨b1+1,0,none⟩) 1 1) [x.nod 0]
 map:A0i (fun s:ByteArray=>Value.string s) W mb m
 below:Below w0.heap.size w0 W
 ent:B8m W b1 0 x
 apart:∀ j,v.ownBlock=some j->j<b1
 mblt:mb<b1
theorem TwoAt.made {te tn : TypeId} {w0 wr : World} {mb : Nat} {v : Value} {m : List (ByteArray × Value)} {x : Ent} {c : List Nod} (hx : x.Ok maxLen w0) (hown : A2a tn wr (mb + 1) v c) (hb : Below w0.heap.size w0 wr) (hm : A0i (fun s : ByteArray => Value.string s) wr mb m) :
 TwoAt te tn w0 wr ((wr.alloc (B3y te x)).alloc (C0u tn (x.nod 0))) mb wr.heap.size v m x c:=by
 have h1:Below wr.heap.size wr (wr.alloc (B3y te x)):=(Below.refl _ _).alloc lr _;have hs:(wr.alloc (B3y te x)).heap.size=wr.heap.size+1:=by simp
 have h2:Below wr.heap.size wr ((wr.alloc (B3y te x)).alloc (C0u tn (x.nod 0))):=h1.alloc (by omega) _;refine ⟨hown.below h2,?_,hm.below h2 hm.lt,hb.trans (h2.mono hb.size),(A1s wr x te).below ((Below.refl _ _).alloc lr _),fun j hj=>(World.ownsRow.lt hown.1 j hj).2,hm.lt⟩;have:=F5g (t:=tn) (w0:=w0) (w:=wr.alloc (B3y te x)) (x:=x.nod 0) (Ent.nod_ok hx (by unfold i64;omega)) (hb.trans (h1.mono hb.size));rw [hs] at this;exact this
structure GrowAt (t : TypeId) (w0 wx : World) (l : List Ent) (k mb b1 b2 : Nat) (v : Value) (m : List (ByteArray × Value)) (z : Nod) (c : List Nod) : Prop where
 all:A9u l (k+1)=c++[z]
 len:c.length=k
 own:A2a t wx (mb+1) v c
 box:A2a t wx b2 (.slice (some ⟨b2,0,none⟩) 1 1) [z]
 inn:B3r wx v z
 map:A0i (fun s:ByteArray=>Value.string s) wx mb m
 below:Below w0.heap.size w0 wx
 ent:B8m wx b1 0 (ek l k)
 apart:∀ j,v.ownBlock=some j->j<b1
theorem B2o {t : TypeId} {w0 W : World} {v : Value} {c : List Nod} {x : Nod} {B : Nat} (hx : x.Ok maxLen w0) (hb : Below w0.heap.size w0 W) (hown : A2a t W B v c) (hB : w0.heap.size ≤ B) : B3r W v x :=
 B9a hx hb (hown.mono hB)
structure LinkSt (tn : TypeId) (w0 W : World) (l : List Ent) (k q mb b1 g cap : Nat) (m : List (ByteArray × Value)) (x : Ent) (y z : Nod) (c : List Nod) : Prop where
 all:A9u l (k+1)=c++[{ y with path:=x.path }]
 len:c.length=k
 own:A2a tn W (mb+1) (.slice (some ⟨g,0,none⟩) k cap) c
 aty:nk c q=y
 yok:y.Ok maxLen w0
 zok:z.Ok maxLen w0
 cok:∀ n,n∈c->n.Ok maxLen w0
 box:A2a tn W (b1+1) (.slice (some ⟨b1+1,0,none⟩) 1 1) [z]
 map:A0i (fun s:ByteArray=>Value.string s) W mb m
 below:Below w0.heap.size w0 W
 ent:B8m W b1 0 x
 gmb:mb<g
 gb1:g<b1
theorem LinkSt.begin {te tn : TypeId} {w0 wr W : World} {l : List Ent} {k q mb b1 g cap : Nat} {m : List (ByteArray × Value)} {x : Ent} {N : Nod} (h : TwoAt te tn w0 wr W mb b1 (.slice (some ⟨g,0,none⟩) k cap) m x (A9u l k)) (hw : w0.heap.size ≤ mb) (hx : x.Ok maxLen w0)
 (hq:q<k) (hN:nk (A9u l k) q=N) (hall:A9u l (k+1)=(A9u l k).set q { N with same:=(q:Int)+1 }++[{ N with same:=(q:Int)+1,path:=x.path }]) (hok:∀ n,n∈A9u l (k+1)->n.Ok maxLen w0) (hqk:(q:Int)+1<=1000) :
 LinkSt tn w0 (W.setCell ⟨g,q*12+2,none⟩ (.int .i64 ((q:Int)+1))) l k q mb b1 g cap m x { N with same:=(q:Int)+1 } (x.nod 0) ((A9u l k).set q { N with same:=(q:Int)+1 }):=by
 subst hN;have hs:i64 ((q:Int)+1):=by unfold i64;omega
 obtain ⟨h1,h2,h3,h4⟩:=h.own.putSame (A1k l k) hq _ hs;have hg:W.grownBy (W.setCell ⟨g,q*12+2,none⟩ (.int .i64 ((q:Int)+1))) (some g):=A7x _ _ _ _;have hap:=h.apart g rfl;have hb:Below w0.heap.size w0 (W.setCell ⟨g,q*12+2,none⟩ (.int .i64 ((q:Int)+1))):=h.below.setCell (p:=⟨g,q*12+2,none⟩) (by show w0.heap.size<=g;omega) _;have hl:(A9u l k).length=k:=A1k l k
 refine ⟨hall,by rw [List.length_set,hl],h1,by rw [D5s (by omega),if_pos rfl],hok _ (by rw [hall];exact List.mem_append_left _ (List.mem_set (by omega) _)),Ent.nod_ok hx (by unfold i64;omega),fun n hn=>hok n (by rw [hall];exact List.mem_append_left _ hn),
  B5v h.box hg (.inr (by simp [Value.ownBlock];omega)) (fun n hn=>by rw [List.mem_singleton.1 hn];exact Ent.nod_ok hx (by unfold i64;omega)) hb,h.map.grown hg (by simp;omega),hb,h.ent.grown hg (by simp;omega),by omega,hap⟩
abbrev E7i (w : World) (g : Nat) (x : Nod) : World := (((((((((((w.setCell ⟨g,0,none⟩ (.string x.path)).setCell ⟨g,1,none⟩ (.int .i64 x.kind)).setCell ⟨g,2,none⟩ (.int .i64 x.same)).setCell ⟨g,3,none⟩ (.string x.target)).setCell ⟨g,4,none⟩ (.int .i64 x.mt.mode)).setCell ⟨g,5,none⟩ (.int .i64 x.mt.uid)).setCell ⟨g,6,none⟩ (.int .i64 x.mt.gid)).setCell ⟨g,7,none⟩ (.string x.mt.user)).setCell ⟨g,8,none⟩ (.string x.mt.group)).setCell ⟨g,9,none⟩ (.int .i64 x.mt.second)).setCell ⟨g,10,none⟩ (.int .i64 x.mt.nano)).setCell ⟨g,11,none⟩ (.slice x.da x.data.length x.dcap)
theorem LinkSt.copied {tn : TypeId} {w0 W : World} {l : List Ent} {k q mb b1 g cap : Nat} {m : List (ByteArray × Value)} {x : Ent} {y z : Nod} {c : List Nod} (h : LinkSt tn w0 W l k q mb b1 g cap m x y z c) (hw : w0.heap.size ≤ mb) :
 LinkSt tn w0 (E7i W (b1+1) y) l k q mb b1 g cap m x y y c:=by
 have h1:=h.gmb;have h2:=h.gb1;have hp:=h.box.putNode (k:=0) (n:=1) rfl (by omega) (B2o h.yok h.below h.box (by omega));simp only [Nat.zero_mul,Nat.zero_add,List.set_cons_zero] at hp;obtain ⟨hbx,hg⟩:=hp;have hb:Below w0.heap.size w0 (E7i W (b1+1) y):=h.below.grown hg (h.below.size) (fun j hj=>by cases hj;omega);exact ⟨h.all,h.len,B5v h.own hg (.inr (by simp [Value.ownBlock];omega)) h.cok hb,h.aty,h.yok,h.yok,h.cok,hbx,h.map.grown hg (by simp;omega),hb,h.ent.grown hg (by simp),h.gmb,h.gb1⟩
theorem LinkSt.named {tn : TypeId} {w0 W : World} {l : List Ent} {k q mb b1 g cap : Nat} {m : List (ByteArray × Value)} {x : Ent} {y : Nod} {c : List Nod} (h : LinkSt tn w0 W l k q mb b1 g cap m x y y c) (hw : w0.heap.size ≤ mb) (hx : ek l k = x) (hxo : x.Ok maxLen w0) :
 GrowAt tn w0 (W.setCell ⟨b1+1,0,none⟩ (.string x.path)) l k mb b1 (b1+1) (.slice (some ⟨g,0,none⟩) k cap) m { y with path:=x.path } c:=by
 have h1:=h.gmb;have h2:=h.gb1;have hg:W.grownBy (W.setCell ⟨b1+1,0,none⟩ (.string x.path)) (some (b1+1)):=A7x _ _ _ _;have hb:Below w0.heap.size w0 (W.setCell ⟨b1+1,0,none⟩ (.string x.path)):=h.below.grown hg h.below.size (fun j hj=>by cases hj;omega);have hyo:({ y with path:=x.path }:Nod).Ok maxLen w0:=⟨hxo.path,h.yok.kind,h.yok.same,h.yok.target,h.yok.mt,h.yok.data⟩;have hbx:=A2a.put (l:=[y]) (k:=0) (j:=0) h.box (by simp) (by omega) { y with path:=x.path } (.string x.path) rfl (B2o hyo h.below h.box (by omega));have hov:=B5v h.own hg (.inr (by simp [Value.ownBlock];omega)) h.cok hb;exact ⟨h.all,h.len,hov,hbx.1,B2o hyo hb hov (by omega),h.map.grown hg (by simp;omega),hb,by rw [hx];exact h.ent.grown hg (by simp),fun j hj=>by simp [Value.ownBlock] at hj;omega⟩
theorem E5e {l : List Ent} {s : ByteArray} {k : Nat} (hk : k ≤ l.length) (h : A4c (l.take k) s < k) : A4c l s = A4c (l.take k) s := by
 have h1:=B3w (l:=l.take k) (s:=s) (by rw [List.length_take];omega);rw [A6z h] at h1;refine B7e (by omega) (fun j hj=>?_) h1;have:=B2w (l:=l.take k) (s:=s) hj
 rwa [A6z (by omega)] at this
def E8i (l : List Ent) (k : Nat) : List Nod := (List.range k).map (B3b l l.length)
theorem D6g (l : List Ent) (k : Nat) : (E8i l k).length = k := by simp [E8i]
theorem F7a (l : List Ent) (k : Nat) : E8i l (k + 1) = E8i l k ++ [B3b l l.length k] := by simp [E8i,List.range_succ]
theorem refG_ok {w : World} {l : List Ent} (hz : A0b l = 0) (hok : ∀ i,i < l.length → (ek l i).Ok maxLen w) {k : Nat} (hk : k ≤ l.length) : ∀ x,x ∈ E8i l k → x.Ok maxLen w := by
 intro x hx;obtain ⟨i,hi,rfl⟩:=List.mem_map.1 hx;exact D4i hz hok (by have:=List.mem_range.1 hi;omega)
theorem F6n {l : List Ent} (hz : A0b l = 0) {k : Nat} (hk : k < l.length) (h4 : (ek l k).kind = 4) : A4c l (ek l k).target < l.length ∧
 B3b l l.length k=⟨(ek l k).path,1,(A4c l (ek l k).target:Int)+1,ByteArray.empty,(ek l k).mt,(ek l (A4c l (ek l k).target)).da,(ek l (A4c l (ek l k).target)).dcap,(ek l (A4c l (ek l k).target)).data⟩:=by
 obtain ⟨h1,h2,h3,h5⟩:=A8v hz hk h4;have he:A4c l (ek l k).target=A3j l k:=E5e (by omega) h1;rw [he];refine ⟨by omega,?_⟩;rw [B5e h4];have hs:=(B2d (A5v ((A7j hz).2 (A3j l k) (by omega))).1).2 h2;have ht:=F0q hs;show (⟨(ek l k).path,(ek l (A3j l k)).kind,(A3j l k:Int)+1,(ek l (A3j l k)).target,(ek l (A3j l k)).mt,_,_,_⟩:Nod)=_
 rw [h2,h3,ht];rfl
structure RefSt (tn : TypeId) (w0 W : World) (k b1 : Nat) (v : Value) (x : Ent) (z : Nod) (c : List Nod) : Prop where
 own:A2a tn W w0.heap.size v c
 len:c.length=k
 zok:z.Ok maxLen w0
 cok:∀ n,n∈c->n.Ok maxLen w0
 box:A2a tn W (b1+1) (.slice (some ⟨b1+1,0,none⟩) 1 1) [z]
 below:Below w0.heap.size w0 W
 ent:B8m W b1 0 x
 apart:∀ j,v.ownBlock=some j->j<b1
 wb:w0.heap.size<=b1
 lt:b1+1<W.heap.size
theorem RefSt.made {te tn : TypeId} {w0 wr : World} {k : Nat} {v : Value} {x : Ent} {c : List Nod} (hx : x.Ok maxLen w0) (hown : A2a tn wr w0.heap.size v c) (hl : c.length = k) (hc : ∀ n,n ∈ c → n.Ok maxLen w0) (hb : Below w0.heap.size w0 wr) :
 RefSt tn w0 ((wr.alloc (B3y te x)).alloc (C0u tn (x.nod 0))) k wr.heap.size v x (x.nod 0) c:=by
 have h1:Below wr.heap.size wr (wr.alloc (B3y te x)):=(Below.refl _ _).alloc lr _;have hs:(wr.alloc (B3y te x)).heap.size=wr.heap.size+1:=by simp
 have h2:Below wr.heap.size wr ((wr.alloc (B3y te x)).alloc (C0u tn (x.nod 0))):=h1.alloc (by omega) _;have hz:=Ent.nod_ok hx (s:=0) (by unfold i64;omega);refine ⟨hown.below h2,hl,hz,hc,?_,hb.trans (h2.mono hb.size),(A1s wr x te).below ((Below.refl _ _).alloc lr _),fun j hj=>(World.ownsRow.lt hown.1 j hj).2,hb.size,by simp⟩;have:=F5g (t:=tn) (w0:=w0) (w:=wr.alloc (B3y te x)) (x:=x.nod 0) hz (hb.trans (h1.mono hb.size));rw [hs] at this;exact this
theorem RefSt.onto {tn : TypeId} {w0 W W' : World} {k b1 : Nat} {v : Value} {x : Ent} {z : Nod} {c : List Nod} (h : RefSt tn w0 W k b1 v x z c) (hb : Below W.heap.size W W') : RefSt tn w0 W' k b1 v x z c :=
 ⟨h.own.below hb,h.len,h.zok,h.cok,h.box.below hb,h.below.trans (hb.mono h.below.size),h.ent.below hb,h.apart,h.wb,Nat.lt_of_lt_of_le h.lt hb.size⟩
theorem RefSt.put {tn : TypeId} {w0 W : World} {k b1 : Nat} {v : Value} {x : Ent} {z : Nod} {c : List Nod} (h : RefSt tn w0 W k b1 v x z c) {j : Nat} (hj : j < 12) (z' : Nod) (u : Value) (hz : z'.cells = z.cells.set j u) (hok : z'.Ok maxLen w0) :
 RefSt tn w0 (W.setCell ⟨b1+1,j,none⟩ u) k b1 v x z' c:=by
 have hwb:=h.wb;have hg:W.grownBy (W.setCell ⟨b1+1,j,none⟩ u) (some (b1+1)):=A7x _ _ _ _;have hb:Below w0.heap.size w0 (W.setCell ⟨b1+1,j,none⟩ u):=h.below.grown hg h.below.size (fun i hi=>by cases hi;omega);have hp:=A2a.put (l:=[z]) (k:=0) (j:=j) h.box (by simp) hj z' u hz (B2o hok h.below h.box (by omega));simp only [Nat.zero_mul,Nat.zero_add,List.set_cons_zero] at hp;exact ⟨B5v h.own hg (.inr (fun e=>by have:=h.apart _ e;omega)) h.cok hb,h.len,hok,h.cok,hp.1,hb,h.ent.grown hg (by simp),h.apart,h.wb,by simpa using h.lt⟩
theorem RefSt.cells {tn : TypeId} {w0 W : World} {k b1 : Nat} {v : Value} {x : Ent} {z : Nod} {c : List Nod} (h : RefSt tn w0 W k b1 v x z c) : B4u W (b1 + 1) 0 z := by
 have:=h.box.nodAtN rfl (k:=0) (by omega);simp only [Nat.zero_mul] at this;exact this
theorem RefSt.free {tn : TypeId} {w0 W : World} {k b1 : Nat} {v : Value} {x : Ent} {z : Nod} {c : List Nod} (h : RefSt tn w0 W k b1 v x z c) (j : Nat) : W.frozen? ⟨b1 + 1,j,none⟩ = false := h.box.1.frozenAt j
def B0x (l : List Ent) (k j : Nat) : Int := if A1m l k j = true then (k : Int) + 1 else 0
def C9g (l : List Ent) (k j : Nat) : Bool := decide ((ek l j).kind = 4) && ((ek l j).target.toList == (ek l k).path.toList) && decide ((ek l k).kind = 1)
theorem E3q {l : List Ent} {k j : Nat} (h : C9g l k j = true) : B0x l k (j + 1) = (k : Int) + 1 := by
 unfold B0x;rw [A3x,if_pos];unfold C9g at h;rw [h,Bool.or_true]
theorem F0a {l : List Ent} {k j : Nat} (h : C9g l k j = false) : B0x l k (j + 1) = B0x l k j := by
 unfold B0x;rw [A3x];unfold C9g at h;rw [h,Bool.or_false]
end Go.Creel
namespace Go.Proofs.YtaffgndickdbiaaGreatDoor
open Go.Creel Go.RowKit
theorem E2r {l : List Ent} {k mb : Nat} {m : List (ByteArray × Value)} {w : World} (hm : A0i (fun s : ByteArray => Value.string s) w mb m) (h : B2q l k m) (s : ByteArray) (hs : A4c (l.take k) s < k) :
 (Instr.lookup 156 (.map (some mb)) (.string s) false).run Tryz.prog w=.ok (.int .i64 (A4c (l.take k) s)) w :=
 hm.look_some B2b (t:=156) (k:=9) (e:=3) Tryz.underlying156 Tryz.underlying9 (by rw [h s,if_pos hs]) false
theorem F1u (b off cap : Nat) (l : List Ent) (w : World) (hM : A1n w) (hpos : 0 < l.length) (hle : l.length ≤ cap) (hm : cap ≤ maxLen) (hc : B9q w b off l) (hok : ∀ i,i < l.length → (ek l i).Ok maxLen w) (h : A4a maxLen 11 (F5m maxLen) w [.slice (some ⟨b,off,none⟩) l.length cap] l) :
 Calls Tryz.prog 64 #[.slice (some ⟨b,off,none⟩) l.length cap] w (B4j 99 w (grown l)):=by
 obtain ⟨i0,hi,hz0,hz1,hz2⟩:=info_parts A9r;have HI:=Hi (And.intro hi (And.intro hz0 (And.intro hz1 hz2)));have H:=Hi h;have HC:=Hi hc;have HK:=Hi hok;have HM:=Hi hM;unfold maxLen at hm;clear h hc hok hM hi hz0 hz1 hz2;by_cases hE:A0b l=0
 ·have HF:=Hi (B1d hE);have hfew:=(A7j hE).1;have HZ:=Hi hE;have HD:=Hi (D7t hE);have HGO:=Hi (fun (q:Nat) (hq:q<=l.length)=>F6p (w:=w) hE HK.out hq);have hmm := @run_makeMap Tryz.prog;clear hE;go_enter Tryz.func64,Tryz.ntmps64;go_wp2_with fail
  refine (B8d _ l _ HM.out H.out).mono ?_;rintro e w1 ⟨rfl,hb⟩;rw [HZ.out];have HB1:=Hi hb;have HMS:=Hi (A0i.made (fun s:ByteArray=>Value.string s) w1);have HMB:=Hi (hb.alloc hb.size (.map #[] 0));have HWM:=Hi hb.size;clear hb;go_wp2;clear hmm;generalize hmb:w1.heap.size=mb at HMS;have HMBE:=Hi hmb;have hwm:w.heap.size<=mb:=by rw [<-hmb];exact HWM.out
  clear hmb HWM;go_loopw [5,7,8,9,10,19] (fun v _ _ _ _ i wr=>∃ (k:Nat) (m:List (ByteArray×Value)),k<=l.length/\i=.int .i64 k/\Hid (A2a 99 wr (mb+1) v (A9u l k))/\Hid (Below w.heap.size w wr)/\Hid (A0i (fun s:ByteArray=>Value.string s) wr mb m)/\Hid (B2q l k m)) (fun _ _ _ _ _ i _=>l.length-(intOf i).toNat)
  case atStart=>exact ⟨0,[],by omega,rfl,Hi (A2a.nil _ _ _),HMB,HMS,Hi (B2q.start l)⟩
  case round =>
   obtain ⟨k,m,hk,rfl,HO,HB,HMI,HPL⟩:=hrel;by_cases hlt:k<l.length
   ·obtain ⟨h0,h1,h2,h3,h4,h5,h6,h7,h8,h9,h10⟩:=(HC.out.below HB.out) k hlt;have HX:=Hi (HK.out k hlt);have HXN:=Hi (Ent.nod_ok HX.out (s:=0) (by unfold i64;omega));have HPP:=Hi (fun (W:World)=>B2q.put (m:=m) HPL.out hlt HZ.out);have HFI:=Hi (fun h=>E5t HZ.out hlt h);have HLI:=Hi (fun h=>E4t HZ.out hlt h);have HLF:=Hi (fun h=>A8v HZ.out hlt h);have HLE:Hid (A3j l k=A4c (l.take k) (ek l k).target):=Hi rfl;have HKC:=Hi (HGO.out (k+1) (by omega));have hkk:=(HX.out.kind);generalize hx:ek l k=x at *;have HEX:=Hi hx;clear hx;have HTW:Hid (TwoAt 26 99 w wr ((wr.alloc (.cells #[.string x.path,.int .i64 x.kind,.string x.target,.int .i64 x.mt.mode,.int .i64 x.mt.uid,.int .i64 x.mt.gid,.string x.mt.user,.string x.mt.group,.int .i64 x.mt.second,.int .i64 x.mt.nano,.slice x.da x.data.length x.dcap] 26)).alloc (.cells #[.string x.path,.int .i64 x.kind,.int .i64 0,.string x.target,.int .i64 x.mt.mode,.int .i64 x.mt.uid,.int .i64 x.mt.gid,.string x.mt.user,.string x.mt.group,.int .i64 x.mt.second,.int .i64 x.mt.nano,.slice x.da x.data.length x.dcap] 99)) mb wr.heap.size u5 m x (A9u l k)):=Hi (TwoAt.made (te:=26) HX.out HO.out HB.out HMI.out);go_upto_region 10 with fail
    generalize World.alloc (World.alloc wr _) _=w2 at *;generalize wr.heap.size=b1 at *;have hbl:=HTW.out.mblt;have HKL:=Hi (show k<=40 by omega);obtain ⟨e0,e1,e2,e3,e4,e5,e6,e7,e8,e9,e10⟩:=HTW.out.ent.zero;go_upto_if 37 with fail
    generalize hkb:(x.kind==4)=kb at *;have HKB:=Hi hkb;clear hkb;go_cut [10] from 38 to 54 (fun _ wx=>∃ (z:Nod) (c:List Nod),Hid (GrowAt 99 w wx l k mb b1 (b1+1) u5 m z c))
    case first =>
     cases kb with
     | true =>
       have hk4:x.kind=4:=by have:=HKB.out;rwa [beq_iff_eq] at this
       obtain ⟨hq1,_⟩:=HLF.out hk4;have hall:=HLI.out hk4;rw [HLE.out] at hq1 hall;have hform:=HTW.out.own.form;rcases hform with ⟨_,e0'⟩|⟨g,cap',hv,hgB,_,hgc,hgm⟩
       ·have:=congrArg List.length e0';rw [A1k] at this;simp at this;omega
       ·rw [A1k] at hgc hv;subst hv;have hlook:=E2r HTW.out.map HPL.out x.target hq1;have hN:=E2m l hq1;generalize A4c (l.take k) x.target=q at *;have HLS:=Hi (LinkSt.begin (N:=B3b l k q) HTW.out hwm HX.out hq1 hN hall HKC.out (by have:=HKL.out;omega));have hps:=HTW.out.own.putSame (A1k l k) hq1 ((q:Int)+1) (by unfold i64;have:=HKL.out;omega);have hcq:=hps.2.1;have hfq:=hps.2.2.1;clear hk4 hall hN hps;generalize B3b l k q=N at *;go_upto_region 12 with fail
        go_cut [] from 42 to 47 (fun wx=>Hid (LinkSt 99 w wx l k q mb b1 g cap' m x { N with same:=(q:Int)+1 } (x.nod 0) ((A9u l k).set q { N with same:=(q:Int)+1 })))
        case first =>
         go_wp2;go_meet;exact HLS
        case rest =>
         clear HLS hcq hfq e0 e1 e2 e3 e4 e5 e6 e7 e8 e9 e10;generalize ({ N with same:=(q:Int)+1 }:Nod)=y at *;generalize (A9u l k).set q y=c at *;have HLS:=hcut;clear hcut;have hna:=HLS.out.own.nodAtN HLS.out.len hq1;rw [HLS.out.aty] at hna;obtain ⟨c0,c1,c2,c3,c4,c5,c6,c7,c8,c9,c10,c11⟩:=hna;have hnb:=HLS.out.box.nodAtN rfl (k:=0) (by omega);obtain ⟨d0,d1,d2,d3,d4,d5,d6,d7,d8,d9,d10,d11⟩:=hnb;have hfz:=fun j=>HLS.out.box.1.frozenAt j
         simp only [Nat.zero_mul,Nat.zero_add] at d0 d1 d2 d3 d4 d5 d6 d7 d8 d9 d10 d11;have f0:=hfz 0;have f1:=hfz 1;have f2:=hfz 2;have f3:=hfz 3;have f4:=hfz 4;have f5:=hfz 5;have f6:=hfz 6;have f7:=hfz 7;have f8:=hfz 8;have f9:=hfz 9;have f10:=hfz 10;have f11:=hfz 11;clear hfz;have HLC:=Hi (HLS.out.copied hwm);go_upto_region 13 with fail
         go_cut [] from 48 to 51 (fun wx=>Hid (LinkSt 99 w wx l k q mb b1 g cap' m x y y c))
         case first =>
          go_wp2;go_meet;exact HLC
         case rest =>
          clear HLS HLC c0 c1 c2 c3 c4 c5 c6 c7 c8 c9 c10 c11 d0 d1 d2 d3 d4 d5 d6 d7 d8 d9 d10 d11 f0 f1 f2 f3 f4 f5 f6 f7 f8 f9 f10 f11;have HLS:=hcut;clear hcut;obtain ⟨e0,e1,e2,e3,e4,e5,e6,e7,e8,e9,e10⟩:=HLS.out.ent.zero;have hnb:=HLS.out.box.nodAtN rfl (k:=0) (by omega);obtain ⟨d0,d1,d2,d3,d4,d5,d6,d7,d8,d9,d10,d11⟩:=hnb;simp only [Nat.zero_mul,Nat.zero_add] at d0;have f0:=HLS.out.box.1.frozenAt 0;have HGA:=Hi (HLS.out.named hwm HEX.out HX.out);clear d1 d2 d3 d4 d5 d6 d7 d8 d9 d10 d11;go_wp2;go_meet;exact ⟨_,c,HGA⟩
     | false =>
       have hk4:¬ x.kind=4:=by have:=HKB.out;rwa [beq_eq_false_iff_ne] at this
       have hall:=HFI.out hk4;clear hk4;go_wp2;go_meet;exact ⟨x.nod 0,A9u l k,Hi ⟨hall,A1k l k,HTW.out.own,HTW.out.box,B2o HXN.out HTW.out.below HTW.out.own (by omega),HTW.out.map,HTW.out.below,by rw [HEX.out];exact HTW.out.ent,HTW.out.apart⟩⟩
    case rest =>
     obtain ⟨z,c,HG⟩:=hcut;clear e0 e1 e2 e3 e4 e5 e6 e7 e8 e9 e10 HTW HLI HFI HLF HLE;obtain ⟨w6,hrun,hm6,hg6⟩:=HG.out.map.put B2b (t:=156) (k:=9) (e:=3) (P:=Tryz.prog) Tryz.underlying156 Tryz.underlying9 x.path (.int .i64 k);have he:=HG.out.ent;rw [HEX.out] at he;obtain ⟨e0,e1,e2,e3,e4,e5,e6,e7,e8,e9,e10⟩:=he.zero;have HOK:=Hi (show ∀ n,n∈c++[z]->n.Ok maxLen w by rw [<-HG.out.all];exact HKC.out);have HB6:=Hi (HG.out.below.grown hg6 HG.out.below.size (fun j hj=>by cases hj;exact hwm));have hvm:u5.ownBlock≠some mb:=fun e=>by have:=(World.ownsRow.lt HG.out.own.1 mb e).1;omega
     have HVM:=Hi hvm;have HO6:=Hi (B5v HG.out.own hg6 (.inr hvm) (fun n hn=>HOK.out n (List.mem_append_left _ hn)) HB6.out);have HN6:=Hi (B5v HG.out.box hg6 (.inr (by simp [Value.ownBlock];omega)) (fun n hn=>HOK.out n (List.mem_append_right _ hn)) HB6.out);have HZO:=Hi (HOK.out z (by simp));have HM6:=Hi hm6;have HBA:=Hi ((Below.refl w6.heap.size w6).alloc lr (C0u 99 z));have HO7:=Hi (HO6.out.below HBA.out);have HB7:=Hi (HB6.out.trans (HBA.out.mono HB6.out.size));have HI7:=Hi (B2o HZO.out HB7.out HO7.out (Nat.le_succ_of_le hwm));have HM7:=Hi (HM6.out.below HBA.out HM6.out.lt);have HMS7:=Hi (show mb+1<=(w6.alloc (C0u 99 z)).heap.size from HM7.out.lt);have hcl:=HG.out.len;have HAL:=Hi HG.out.all;have hnb:=HN6.out.nodAtN rfl (k:=0) (by omega);obtain ⟨d0,d1,d2,d3,d4,d5,d6,d7,d8,d9,d10,d11⟩:=hnb;simp only [Nat.zero_mul,Nat.zero_add] at d0 d1 d2 d3 d4 d5 d6 d7 d8 d9 d10 d11;rw [show nk [z] 0=z from rfl] at d0 d1 d2 d3 d4 d5 d6 d7 d8 d9 d10 d11;clear hm6 hg6 hvm he HG;go_wp2_with (at_builtin;refine A9b _ rfl (.tmp 59) (.tmp 61) 51 51 rfl _ _ rfl rfl (fun ty=>A8g _ 51 51 ty (mb+1) 99 i0 _ 12 144 Tryz.underlying51 HI.out.1 HI.out.2.1 HI.out.2.2.1 HI.out.2.2.2 rfl (by decide) _ _ c.length 1 _ _ HO7.out.1 (B0v w6 rfl _ _ _ Tryz.underlying51 z) (by unfold maxLen;omega) (by omega) HMS7.out) ?_;intro v2 w8 ho2 hg2 hv2;have HZZ:=Hi (And.intro ho2 (And.intro hg2 hv2));clear ho2 hg2 hv2)
     have HO8:=Hi (HO7.out.app (m:=[z]) (fun y hy=>by rw [List.mem_singleton.1 hy];exact HI7.out) HZZ.out.1 HZZ.out.2.1 HZZ.out.2.2.2);have HB8:=Hi (HB7.out.grown HZZ.out.2.1 HB7.out.size (fun j hj=>by have:=(World.ownsRow.lt HO7.out.1 j hj).1;omega));have HM8:=Hi (HM7.out.grown HZZ.out.2.1 (fun e=>HVM.out e.symm));have HP8:=Hi (HPP.out w8);go_wp2;go_roundw
     case rel=>exact ⟨k+1,_,by omega,by go_num,Hi (by rw [HAL.out];exact HO8.out),HB8,HM8,HP8⟩
     case measure=>simp [intOf];omega
   ·obtain rfl:k=l.length:=by omega
    go_wp2_with fail
    refine (C3y _ (A4n l) _ (HO.out.slice (by rw [A1k];unfold maxLen;omega)) (by unfold A4n;rw [A1k];omega) HD.out).mono ?_;rintro e w5 ⟨v5,c,rfl,ho,hcb,hb⟩;have HO5:=Hi (ho.mono HB.out.size);have HB5:=Hi (HB.out.trans (hb.mono HB.out.size));have HC5:=Hi hcb;clear ho hb hcb;go_wp2;go_ret2;rw [HF.out];exact ⟨_,c,rfl,HO5.out,HC5.out,HB5.out⟩
 ·have HF:=Hi (B7g hE);have HE:=Hi hE;clear hE;go_enter Tryz.func64,Tryz.ntmps64;go_wp2_with fail
  refine (B8d _ l _ HM.out H.out).mono ?_;rintro e w1 ⟨rfl,hb⟩;have HB1:=Hi hb;have hne:=HE.out;clear hb;generalize A0b l=q at *;go_wp2;go_ret2;rw [HF.out];exact ⟨_,[],rfl,A2a.nil _ _ _,rfl,HB1.out⟩
theorem F3k (a : Option Addr) (cap : Nat) (w : World) (hM : A1n w) (h : A4a maxLen 11 (F5m maxLen) w [.slice a 0 cap] []) :
 Calls Tryz.prog 64 #[.slice a 0 cap] w (B4j 99 w (grown [])):=by
 have HF:=Hi (show grown []=([],0) from B1d A7s);have H:=Hi h;have HM:=Hi hM;have hmm := @run_makeMap Tryz.prog;clear h hM;go_enter Tryz.func64,Tryz.ntmps64;go_wp2_with fail
 refine (B8d _ [] _ HM.out H.out).mono ?_;rintro e w1 ⟨rfl,hb⟩;rw [A7s];have HB1:=Hi hb;have HMB:=Hi (hb.alloc hb.size (.map #[] 0));clear hb;go_wp2;clear hmm
 go_loop [5,7,8,9,10,19] (fun v _ _ _ _ i=>v=.slice none 0 0/\i=.int .i64 0) (fun _ _ _ _ _ _=>0)
 case atStart=>exact ⟨rfl,rfl⟩
 case round =>
  obtain ⟨rfl,rfl⟩:=hrel;go_wp2_with fail
  refine (D8y none 0 _).mono ?_;rintro e w5 ⟨v5,c,rfl,ho,hcb,hb⟩;have HO5:=Hi (ho.mono HMB.out.size);have HB5:=Hi (HMB.out.trans (hb.mono HMB.out.size));have HC5:=Hi hcb;clear ho hb hcb;go_wp2;go_ret2;rw [HF.out];exact ⟨_,c,rfl,HO5.out,HC5.out,HB5.out⟩
theorem F4k (v : Value) (l : List Ent) (w : World) (hM : A1n w) (h : A4a maxLen 11 (F5m maxLen) w [v] l) :
 Calls Tryz.prog 64 #[v] w (B4j 99 w (grown l)):=by
 rcases B1w h with ⟨a,cap,rfl,rfl,_⟩|⟨b,off,cap,rfl,h1,h2,h3,_,h4,h5⟩
 ·exact F3k a cap w hM h
 ·exact F1u b off cap l w hM h1 h2 h3 h4 h5 h
end Go.Proofs.YtaffgndickdbiaaGreatDoor
