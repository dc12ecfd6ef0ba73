/- A part of the proof. -/
import Derived.Test.YtaffgndickdbiaaGreatDoorV17
import Derived.MapKept
import Derived.Maps.OwnSet
set_option linter.unusedVariables false
set_option linter.unusedSimpArgs false
set_option linter.unusedSectionVars false
namespace Go.Creel
open Go.RowKit
def Nod.bare (x : Nod) : Nod := { x with da := none,dcap := 0 }
def B3r (w : World) (v : Value) (x : Nod) : Prop := x.Ok maxLen w ∧ ∀ a,0 < x.data.length → x.da = some a → v.ownBlock ≠ some a.block
def A2a (t : TypeId) (w : World) (B : Nat) (v : Value) (l : List Nod) : Prop := w.ownsRow B t 12 v l.length (l.flatMap Nod.cells) ∧ ∀ x,x ∈ l → B3r w v x
theorem Nod.cells_len (x : Nod) : x.cells.length = 12 := rfl
theorem C1e : ∀ l : List Nod,(l.flatMap Nod.cells).length = l.length * 12
 | []=>rfl
 | x::r=>by rw [List.flatMap_cons,List.length_append,C1e r,Nod.cells_len,List.length_cons];omega
theorem D7i : ∀ (l : List Nod) (k j : Nat),k < l.length → j < 12 → (l.flatMap Nod.cells)[k * 12 + j]? = (nk l k).cells[j]?
 | [],_,_,h,_=>absurd h (by simp)
 | x::r,0,j,_,hj=>by
   rw [List.flatMap_cons,Nat.zero_mul,Nat.zero_add,List.getElem?_append_left (by rw [Nod.cells_len];omega)];rfl
 | x::r,k+1,j,hk,hj=>by
   rw [List.flatMap_cons,List.getElem?_append_right (by rw [Nod.cells_len];omega),Nod.cells_len];have e:(k+1)*12+j-12=k*12+j:=by omega
   rw [e,D7i r k j (by simpa using hk) hj];rfl
theorem D6i : ∀ (l : List Nod) (k j : Nat) (y : Nod) (u : Value),k < l.length → j < 12 → y.cells = (nk l k).cells.set j u → (l.flatMap Nod.cells).set (k * 12 + j) u = (l.set k y).flatMap Nod.cells
 | [],_,_,_,_,h,_,_=>absurd h (by simp)
 | x::r,0,j,y,u,_,hj,hy=>by
   rw [List.flatMap_cons,Nat.zero_mul,Nat.zero_add,List.set_append_left _ _ (by rw [Nod.cells_len];omega),List.set_cons_zero,List.flatMap_cons,hy];rfl
 | x::r,k+1,j,y,u,hk,hj,hy=>by
   rw [List.flatMap_cons,List.set_append_right _ _ (by rw [Nod.cells_len];omega),Nod.cells_len];have e:(k+1)*12+j-12=k*12+j:=by omega
   rw [e,D6i r k j y u (by simpa using hk) hj hy,List.set_cons_succ,List.flatMap_cons]
theorem C9c {w w' : World} {B size n : Nat} {t : TypeId} {v : Value} {xs : List Value} (h : w.ownsRow B t size v n xs) (hb : Below w.heap.size w w') : w'.ownsRow B t size v n xs := by
 refine ⟨h.1,?_⟩;rcases h.2 with h0|⟨g,cap,cur,hv,hbg,hg,r⟩
 ·exact .inl h0
 ·refine .inr ⟨g,cap,cur,hv,hbg,?_,r⟩;rw [hb.block g (ltO hg)];exact hg
theorem A4p {w w' : World} {row : Option Nat} {a : Option Addr} {cap : Nat} {l : List UInt8} (h : A4a maxLen 1 A1e w [.slice a l.length cap] l) (hg : w.grownBy w' row) (hne : ∀ p,0 < l.length → a = some p → row ≠ some p.block) : A4a maxLen 1 A1e w' [.slice a l.length cap] l := by
 obtain ⟨a',cap',hv,h1,h2,h3,h5,h4⟩:=h;simp only [List.cons.injEq,Value.slice.injEq,and_true,true_and] at hv;obtain ⟨rfl,rfl⟩:=hv;refine ⟨a,cap,rfl,h1,h2,h3,h5,fun hl=>?_⟩;obtain ⟨b,off,rfl,hc⟩:=h4 hl;refine ⟨b,off,rfl,fun i hi=>?_⟩;obtain ⟨c,hcl,hcc,hE⟩:=hc i hi;refine ⟨c,hcl,fun j hj=>?_,hE⟩;have hx:=hcc j hj;obtain ⟨u,hu⟩:∃ u,c[j]?=some u:=⟨c[j],List.getElem?_eq_getElem (by omega)⟩;rw [hu] at hx ⊢;exact hg.cell hx (fun e=>hne _ hl rfl e.symm)
theorem C8w {w : World} {a : Option Addr} {cap : Nat} {l : List UInt8} (h : A4a maxLen 1 A1e w [.slice a l.length cap] l) (p : Addr) (hl : 0 < l.length) (hp : a = some p) : p.block < w.heap.size := by
 obtain ⟨a',cap',hv,h1,h2,h3,h5,h4⟩:=h;simp only [List.cons.injEq,Value.slice.injEq,and_true,true_and] at hv;obtain ⟨rfl,rfl⟩:=hv;obtain ⟨b,off,he,hc⟩:=h4 hl;obtain ⟨c,hcl,hcc,hE⟩:=hc 0 hl;have hx:=hcc 0 (by omega);rw [List.getElem?_eq_getElem (by omega)] at hx;rw [hp] at he;cases he
 exact World.block_lt_of_cell? w ⟨b,_,none⟩ hx
theorem Nod.Ok.grown {w w' : World} {x : Nod} {row : Option Nat} (h : x.Ok maxLen w) (hg : w.grownBy w' row) (hne : ∀ p,0 < x.data.length → x.da = some p → row ≠ some p.block) : x.Ok maxLen w' :=
 ⟨h.path,h.kind,h.same,h.target,h.mt,A4p h.data hg hne⟩
theorem Nod.Ok.lt {w : World} {x : Nod} (h : x.Ok maxLen w) (p : Addr) (hl : 0 < x.data.length) (hp : x.da = some p) : p.block < w.heap.size := C8w h.data p hl hp
section
variable {t : TypeId} {w w' : World} {B : Nat} {v v' : Value} {l m : List Nod}
theorem B3r.below {x : Nod} (h : B3r w v x) (hb : Below w.heap.size w w') : B3r w' v x := ⟨h.1.below hb,h.2⟩
theorem A2a.nil (t : TypeId) (w : World) (B : Nat) : A2a t w B (.slice none 0 0) [] := ⟨World.ownsRow_nil w B t 12,fun x hx => absurd hx (by simp)⟩
theorem A2a.below (h : A2a t w B v l) (hb : Below w.heap.size w w') : A2a t w' B v l := ⟨C9c h.1 hb,fun x hx => (h.2 x hx).below hb⟩
theorem A2a.mono {B' : Nat} (h : A2a t w B v l) (hb : B' ≤ B) : A2a t w B' v l := by
 refine ⟨⟨h.1.1,?_⟩,h.2⟩;rcases h.1.2 with ⟨rfl,h0⟩|⟨g,cap,cur,rfl,hbg,r⟩
 ·exact .inl ⟨rfl,h0⟩
 ·exact .inr ⟨g,cap,cur,rfl,Nat.le_trans hb hbg,r⟩
theorem A2a.slice (h : A2a t w B v l) (hl : l.length ≤ maxLen) : A4a maxLen 12 (B6b maxLen) w [v] l := by
 rcases h.1.2 with ⟨rfl,h0⟩|⟨g,cap,cur,rfl,hbg,hg,hnc,hcm,hcs,htake⟩
 ·obtain rfl:=List.eq_nil_of_length_eq_zero h0;exact ⟨none,0,rfl,by simp,by simp,by simp,fun _=>rfl,fun h=>absurd h (by simp)⟩
 ·refine ⟨some ⟨g,0,none⟩,cap,rfl,hnc,hcm,hl,(fun h=>by cases h),fun _=>⟨g,0,rfl,fun i hi=>⟨(l[i]).cells,rfl,fun j hj=>?_,rfl,(h.2 _ (List.getElem_mem hi)).1⟩⟩⟩;rw [Nat.zero_add,h.1.cellAt _ (by omega),D7i l i j hi hj,A5m hi]
theorem A2a.form (h : A2a t w B v l) : (v = .slice none 0 0 ∧ l = []) ∨ ∃ g cap,v = .slice (some ⟨g,0,none⟩) l.length cap ∧ B ≤ g ∧ g < w.heap.size ∧ l.length ≤ cap ∧ cap ≤ maxLen := by
 rcases h.1.2 with ⟨rfl,h0⟩|⟨g,cap,cur,rfl,hbg,hg,hnc,hcm,hcs,htake⟩
 ·exact .inl ⟨rfl,List.eq_nil_of_length_eq_zero h0⟩
 ·exact .inr ⟨g,cap,rfl,hbg,(ltO hg),hnc,hcm⟩
theorem A2a.nodAt {g cap : Nat} (h : A2a t w B (.slice (some ⟨g,0,none⟩) l.length cap) l) {k : Nat} (hk : k < l.length) : B4u w g (k * 12) (nk l k) := by
 have c:=fun j hj=>(h.1.cellAt (k*12+j) (by omega)).trans (D7i l k j hk hj)
 exact ⟨c 0 (by omega),c 1 (by omega),c 2 (by omega),c 3 (by omega),c 4 (by omega),c 5 (by omega),c 6 (by omega),c 7 (by omega),c 8 (by omega),c 9 (by omega),c 10 (by omega),c 11 (by omega)⟩
theorem A2a.nodIn (h : A2a t w B v l) {k : Nat} (hk : k < l.length) : B3r w v (nk l k) := by
 rw [A5m hk];exact h.2 _ (List.getElem_mem hk)
theorem A2a.app (h : A2a t w B v l) (hm : ∀ x,x ∈ m → B3r w v x) (ho : w'.ownsRow B t 12 v' (l.length + m.length) (l.flatMap Nod.cells ++ m.flatMap Nod.cells)) (hg : w.grownBy w' v.ownBlock)
 (hv:v'.ownBlock=v.ownBlock\/∃ b,v'.ownBlock=some b/\w.heap.size<=b):A2a t w' B v' (l++m):=by
 refine ⟨by rw [List.length_append,List.flatMap_append];exact ho,fun x hx=>?_⟩;have hin:B3r w v x:=by
  rcases List.mem_append.1 hx with a|a
  ·exact h.2 x a
  ·exact hm x a
 refine ⟨hin.1.grown hg hin.2,fun a hp ha=>?_⟩;rcases hv with e|⟨b,e,hb⟩
 ·rw [e];exact hin.2 a hp ha
 ·rw [e];intro e2;have h3:=hin.1.lt a hp ha;simp only [Option.some.injEq] at e2;omega
theorem A2a.put {g cap k j : Nat} (h : A2a t w B (.slice (some ⟨g,0,none⟩) l.length cap) l) (hk : k < l.length) (hj : j < 12) (y : Nod) (u : Value) (hy : y.cells = (nk l k).cells.set j u)
 (hin:B3r w (.slice (some ⟨g,0,none⟩) l.length cap) y):A2a t (w.setCell ⟨g,k*12+j,none⟩ u) B (.slice (some ⟨g,0,none⟩) l.length cap) (l.set k y)/\w.grownBy (w.setCell ⟨g,k*12+j,none⟩ u) (some g):=by
 obtain ⟨h1,h2⟩:=h.1.stored (k*12+j) u;refine ⟨⟨?_,fun x hx=>?_⟩,h2⟩
 ·rw [D6i l k j y u hk hj hy] at h1;rw [List.length_set];exact h1
 ·have hin':B3r w (.slice (some ⟨g,0,none⟩) l.length cap) x:=by
   rcases List.mem_or_eq_of_mem_set hx with a|a
   ·exact h.2 x a
   ·rw [a];exact hin
  exact ⟨hin'.1.grown h2 hin'.2,hin'.2⟩
end
theorem B9i {P : Program} (w : World) (tx e' e : TypeId) (hk : P.underlying tx = some (.slice e')) (x : Nod) : Src P 12 tx (.slice (some ⟨w.heap.size,0,none⟩) 1 1) 1 ([x].flatMap Nod.cells) (w.alloc (.cells #[.string x.path,.int .i64 x.kind,.int .i64 x.same,.string x.target,.int .i64 x.mt.mode,.int .i64 x.mt.uid,.int .i64 x.mt.gid,.string x.mt.user,.string x.mt.group,.int .i64 x.mt.second,.int .i64 x.mt.nano,.slice x.da x.data.length x.dcap] e)) := by
 refine Src.ofSlice _ hk ⟨w.heap.size,0,none⟩ 1 1 _ rfl (fun j u hu=>?_) (fun u hu=>?_)
 ·have hj:j<12:=by
   rcases Nat.lt_or_ge j 12 with h|h
   ·exact h
   ·rw [List.getElem?_eq_none (by simpa [Nod.cells] using h)] at hu;cases hu
  have e:(⟨w.heap.size,0,none⟩:Addr).add j=⟨w.heap.size,j,none⟩:=by unfold Addr.add;split<;>simp_all
  rw [e,World.cell?_alloc_new];simpa [Nod.cells] using hu
 ·simp [Nod.cells] at hu;rcases hu with rfl|rfl|rfl|rfl|rfl|rfl|rfl|rfl|rfl|rfl|rfl|rfl<;>rfl
def RetT (t : TypeId) (w : World) (l : List Nod) (e : Ending) (w' : World) : Prop := ∃ v l',e = .returned v ∧ A2a t w' w.heap.size v l' ∧ l'.map Nod.bare = l.map Nod.bare ∧ Below w.heap.size w w'
def B4j (t : TypeId) (w : World) (p : List Nod × Int) (e : Ending) (w' : World) : Prop := ∃ v l',e = .returned (.tuple #[v,.int .i64 p.2]) ∧ A2a t w' w.heap.size v l' ∧ l'.map Nod.bare = p.1.map Nod.bare ∧ Below w.heap.size w w'
def Ent.bare (x : Ent) : Ent := { x with da := none,dcap := 0 }
def D4m (w : World) (v : Value) (x : Ent) : Prop := x.Ok maxLen w ∧ ∀ a,0 < x.data.length → x.da = some a → v.ownBlock ≠ some a.block
def A9g (t : TypeId) (w : World) (B : Nat) (v : Value) (l : List Ent) : Prop := w.ownsRow B t 11 v l.length (l.flatMap Ent.cells) ∧ ∀ x,x ∈ l → D4m w v x
theorem Ent.cells_len (x : Ent) : x.cells.length = 11 := rfl
theorem E5m : ∀ (l : List Ent) (k j : Nat),k < l.length → j < 11 → (l.flatMap Ent.cells)[k * 11 + j]? = (ek l k).cells[j]?
 | [],_,_,h,_=>absurd h (by simp)
 | x::r,0,j,_,hj=>by
   rw [List.flatMap_cons,Nat.zero_mul,Nat.zero_add,List.getElem?_append_left (by rw [Ent.cells_len];omega)];rfl
 | x::r,k+1,j,hk,hj=>by
   rw [List.flatMap_cons,List.getElem?_append_right (by rw [Ent.cells_len];omega),Ent.cells_len];have e:(k+1)*11+j-11=k*11+j:=by omega
   rw [e,E5m r k j (by simpa using hk) hj];rfl
theorem D0u : ∀ (l : List Ent) (k j : Nat) (y : Ent) (u : Value),k < l.length → j < 11 → y.cells = (ek l k).cells.set j u → (l.flatMap Ent.cells).set (k * 11 + j) u = (l.set k y).flatMap Ent.cells
 | [],_,_,_,_,h,_,_=>absurd h (by simp)
 | x::r,0,j,y,u,_,hj,hy=>by
   rw [List.flatMap_cons,Nat.zero_mul,Nat.zero_add,List.set_append_left _ _ (by rw [Ent.cells_len];omega),List.set_cons_zero,List.flatMap_cons,hy];rfl
 | x::r,k+1,j,y,u,hk,hj,hy=>by
   rw [List.flatMap_cons,List.set_append_right _ _ (by rw [Ent.cells_len];omega),Ent.cells_len];have e:(k+1)*11+j-11=k*11+j:=by omega
   rw [e,D0u r k j y u (by simpa using hk) hj hy,List.set_cons_succ,List.flatMap_cons]
theorem Ent.Ok.grown {w w' : World} {x : Ent} {row : Option Nat} (h : x.Ok maxLen w) (hg : w.grownBy w' row) (hne : ∀ p,0 < x.data.length → x.da = some p → row ≠ some p.block) : x.Ok maxLen w' :=
 ⟨h.path,h.kind,h.target,h.mt,A4p h.data hg hne⟩
theorem Ent.Ok.lt {w : World} {x : Ent} (h : x.Ok maxLen w) (p : Addr) (hl : 0 < x.data.length) (hp : x.da = some p) : p.block < w.heap.size := C8w h.data p hl hp
section
variable {t : TypeId} {w w' : World} {B : Nat} {v v' : Value} {l m : List Ent}
theorem D4m.below {x : Ent} (h : D4m w v x) (hb : Below w.heap.size w w') : D4m w' v x := ⟨h.1.below hb,h.2⟩
theorem A9g.nil (t : TypeId) (w : World) (B : Nat) : A9g t w B (.slice none 0 0) [] := ⟨World.ownsRow_nil w B t 11,fun x hx => absurd hx (by simp)⟩
theorem A9g.below (h : A9g t w B v l) (hb : Below w.heap.size w w') : A9g t w' B v l := ⟨C9c h.1 hb,fun x hx => (h.2 x hx).below hb⟩
theorem A9g.mono {B' : Nat} (h : A9g t w B v l) (hb : B' ≤ B) : A9g t w B' v l := by
 refine ⟨⟨h.1.1,?_⟩,h.2⟩;rcases h.1.2 with ⟨rfl,h0⟩|⟨g,cap,cur,rfl,hbg,r⟩
 ·exact .inl ⟨rfl,h0⟩
 ·exact .inr ⟨g,cap,cur,rfl,Nat.le_trans hb hbg,r⟩
theorem A9g.slice (h : A9g t w B v l) (hl : l.length ≤ maxLen) : A4a maxLen 11 (F5m maxLen) w [v] l := by
 rcases h.1.2 with ⟨rfl,h0⟩|⟨g,cap,cur,rfl,hbg,hg,hnc,hcm,hcs,htake⟩
 ·obtain rfl:=List.eq_nil_of_length_eq_zero h0;exact ⟨none,0,rfl,by simp,by simp,by simp,fun _=>rfl,fun h=>absurd h (by simp)⟩
 ·refine ⟨some ⟨g,0,none⟩,cap,rfl,hnc,hcm,hl,(fun h=>by cases h),fun _=>⟨g,0,rfl,fun i hi=>⟨(l[i]).cells,rfl,fun j hj=>?_,rfl,(h.2 _ (List.getElem_mem hi)).1⟩⟩⟩;rw [Nat.zero_add,h.1.cellAt _ (by omega),E5m l i j hi hj,ek_eq hi]
theorem A9g.form (h : A9g t w B v l) : (v = .slice none 0 0 ∧ l = []) ∨ ∃ g cap,v = .slice (some ⟨g,0,none⟩) l.length cap ∧ B ≤ g ∧ g < w.heap.size ∧ l.length ≤ cap ∧ cap ≤ maxLen := by
 rcases h.1.2 with ⟨rfl,h0⟩|⟨g,cap,cur,rfl,hbg,hg,hnc,hcm,hcs,htake⟩
 ·exact .inl ⟨rfl,List.eq_nil_of_length_eq_zero h0⟩
 ·exact .inr ⟨g,cap,rfl,hbg,(ltO hg),hnc,hcm⟩
theorem A9g.app (h : A9g t w B v l) (hm : ∀ x,x ∈ m → D4m w v x) (ho : w'.ownsRow B t 11 v' (l.length + m.length) (l.flatMap Ent.cells ++ m.flatMap Ent.cells)) (hg : w.grownBy w' v.ownBlock)
 (hv:v'.ownBlock=v.ownBlock\/∃ b,v'.ownBlock=some b/\w.heap.size<=b):A9g t w' B v' (l++m):=by
 refine ⟨by rw [List.length_append,List.flatMap_append];exact ho,fun x hx=>?_⟩;have hin:D4m w v x:=by
  rcases List.mem_append.1 hx with a|a
  ·exact h.2 x a
  ·exact hm x a
 refine ⟨hin.1.grown hg hin.2,fun a hp ha=>?_⟩;rcases hv with e|⟨b,e,hb⟩
 ·rw [e];exact hin.2 a hp ha
 ·rw [e];intro e2;have h3:=hin.1.lt a hp ha;simp only [Option.some.injEq] at e2;omega
theorem A9g.put {g cap k j : Nat} (h : A9g t w B (.slice (some ⟨g,0,none⟩) l.length cap) l) (hk : k < l.length) (hj : j < 11) (y : Ent) (u : Value) (hy : y.cells = (ek l k).cells.set j u)
 (hin:D4m w (.slice (some ⟨g,0,none⟩) l.length cap) y):A9g t (w.setCell ⟨g,k*11+j,none⟩ u) B (.slice (some ⟨g,0,none⟩) l.length cap) (l.set k y)/\w.grownBy (w.setCell ⟨g,k*11+j,none⟩ u) (some g):=by
 obtain ⟨h1,h2⟩:=h.1.stored (k*11+j) u;refine ⟨⟨?_,fun x hx=>?_⟩,h2⟩
 ·rw [D0u l k j y u hk hj hy] at h1;rw [List.length_set];exact h1
 ·have hin':D4m w (.slice (some ⟨g,0,none⟩) l.length cap) x:=by
   rcases List.mem_or_eq_of_mem_set hx with a|a
   ·exact h.2 x a
   ·rw [a];exact hin
  exact ⟨hin'.1.grown h2 hin'.2,hin'.2⟩
end
theorem E6z {P : Program} (w : World) (tx e' e : TypeId) (hk : P.underlying tx = some (.slice e')) (x : Ent) : Src P 11 tx (.slice (some ⟨w.heap.size,0,none⟩) 1 1) 1 ([x].flatMap Ent.cells) (w.alloc (.cells #[.string x.path,.int .i64 x.kind,.string x.target,.int .i64 x.mt.mode,.int .i64 x.mt.uid,.int .i64 x.mt.gid,.string x.mt.user,.string x.mt.group,.int .i64 x.mt.second,.int .i64 x.mt.nano,.slice x.da x.data.length x.dcap] e)) := by
 refine Src.ofSlice _ hk ⟨w.heap.size,0,none⟩ 1 1 _ rfl (fun j u hu=>?_) (fun u hu=>?_)
 ·have hj:j<11:=by
   rcases Nat.lt_or_ge j 11 with h|h
   ·exact h
   ·rw [List.getElem?_eq_none (by simpa [Ent.cells] using h)] at hu;cases hu
  have e:(⟨w.heap.size,0,none⟩:Addr).add j=⟨w.heap.size,j,none⟩:=by unfold Addr.add;split<;>simp_all
  rw [e,World.cell?_alloc_new];simpa [Ent.cells] using hu
 ·simp [Ent.cells] at hu;rcases hu with rfl|rfl|rfl|rfl|rfl|rfl|rfl|rfl|rfl|rfl|rfl<;>rfl
def setRow (w : World) (b : Nat) : List Value → Nat → World
 | [],_=>w
 | v::vs,j=>setRow (w.setCell ⟨b,j,none⟩ v) b vs (j+1)
theorem A7d (w : World) (b j : Nat) (u : Value) : w.grownBy (w.setCell ⟨b,j,none⟩ u) (some b) :=
 ⟨rfl,rfl,rfl,by simp,fun i _ hi=>heap_setCell_other w _ i u (fun e=>hi (by rw [e]))⟩
theorem A0r {a b c : World} {r : Nat} (h : a.grownBy b (some r)) (h2 : b.grownBy c (some r)) : a.grownBy c (some r) := h.andThen h2 (fun j hj => .inr hj)
theorem B1m (b : Nat) : ∀ (vs : List Value) (w : World) (j : Nat),w.grownBy (setRow w b vs j) (some b)
 | [],w,_=>⟨rfl,rfl,rfl,Nat.le_refl _,fun _ _ _=>rfl⟩
 | v::vs,w,j=>A0r (A7d w b j v) (B1m b vs _ (j+1))
theorem D4a {b : Nat} {t : TypeId} : ∀ (vs : List Value) (w : World) (cs : Array Value) (j : Nat),w.heap[b]? = some (.cells cs t (0,0)) → j + vs.length ≤ cs.size →
 (setRow w b vs j).heap[b]?=some (.cells (cs.toList.take j++vs++cs.toList.drop (j+vs.length)).toArray t (0,0))
 | [],w,cs,j,h,hj=>by
   unfold setRow;rw [h];simp
 | v::vs,w,cs,j,h,hj=>by
   simp only [List.length_cons] at hj;unfold setRow;rw [D4a vs _ _ (j+1) (heap_setCell_same w b j cs t v h) (by rw [Array.size_setIfInBounds];omega)];congr 2;rw [Array.toList_setIfInBounds];have hl:j<cs.toList.length:=by rw [Array.length_toList];omega
   rw [List.take_add_one,List.getElem?_set_self hl,List.take_set_of_le (Nat.le_refl j),List.drop_set_of_lt (by omega)];simp only [Option.toList_some,List.append_assoc,List.cons_append,List.nil_append,List.length_cons];rw [show j+1+vs.length=j+(vs.length+1) by omega]
theorem D5a {w : World} {b : Nat} {t : TypeId} {cs : Array Value} {vs : List Value} (h : w.heap[b]? = some (.cells cs t (0,0))) (hn : cs.size = vs.length) : (setRow w b vs 0).heap[b]? = some (.cells vs.toArray t (0,0)) := by
 rw [D4a vs w cs 0 h (by omega)];simp [hn]
theorem Below.setRow {B b : Nat} (hb : B ≤ b) : ∀ (vs : List Value) (w0 w : World) (j : Nat),Below B w0 w → Below B w0 (setRow w b vs j)
 | [],_,_,_,h=>h
 | v::vs,w0,w,j,h=>Below.setRow hb vs w0 _ (j+1) (h.setCell (p:=⟨b,j,none⟩) hb v)
theorem OwnBs.place {t : TypeId} {w : World} {B : Nat} {v : Value} {l : List UInt8} (h : OwnBs t w B v l) : ∃ a cap,v = .slice a l.length cap ∧ ∀ p,a = some p → B ≤ p.block ∧ p.block < w.heap.size := by
 rcases h.2 with ⟨rfl,h0⟩|⟨g,cap,cur,rfl,hbg,hg,hnc,hcm,hcs,htake⟩
 ·obtain rfl:l=[]:=List.eq_nil_of_length_eq_zero h0;exact ⟨none,0,rfl,fun p hp=>by cases hp⟩
 ·refine ⟨_,cap,rfl,fun p hp=>?_⟩;cases hp
  exact ⟨hbg,(ltO hg)⟩
def F7k (w w' : World) (x y : Ent) : Prop := x.bare = y.bare ∧ x.Ok maxLen w' ∧ ∀ p,x.da = some p → w.heap.size ≤ p.block
def B9y (w : World) (p : Ent × Int × Int) (e : Ending) (w' : World) : Prop := ∃ x : Ent,e = .returned (.tuple #[x.val,.int .i64 p.2.1,.int .i64 p.2.2]) ∧ F7k w w' x p.1 ∧ Below w.heap.size w w'
theorem A1o (w w' : World) : F7k w w' A2m A2m := by
 refine ⟨rfl,⟨?_,?_,?_,?_,?_⟩,fun p hp=>by cases hp⟩
 ·simp [A2m]
 ·simp [A2m,i64]
 ·simp [A2m]
 ·constructor<;>simp [A2m,i64]
 ·show A4a maxLen 1 A1e w' [.slice none 0 0] []
  exact ⟨none,0,rfl,by simp,by simp,by simp,fun _=>rfl,fun h=>absurd h (by simp)⟩
theorem C2q (h : HeadN) (l : List Rec) (da : Option Addr) (dcap : Nat) (d : List UInt8) : (A3i h l da dcap d).bare = (A3i h l none 0 d).bare := rfl
theorem A3b {N : Nat} {w w' : World} {v : Value} {l : List UInt8} (h : A4a N 1 A1e w [v] l) (hb : Below w.heap.size w w') : A4a N 1 A1e w' [v] l := h.below (fun _ _ h => h) hb
theorem A5e {fn : Func} {p u x : Tmp} {ty : TypeId} (h : fn.results = #[.cell p ty,.tmp u,.tmp x]) (tmps : Array Value) (P : Program) (w : World) :
 (results fn tmps).run P w =
   ((asAddr (tmps.getD p undef)).run P w).andThen fun a w₁=>((loadVar ty a).run P w₁).andThen fun v w₂ => .ok (.tuple #[v,tmps.getD u undef,tmps.getD x undef]) w₂:=by
 simp only [results,h];simp [Sem.run_bind,Result.andThen]
theorem ne_t {a b : List UInt8} (h : a = b) : (!((ofL a).toList == (ofL b).toList)) = false := by rw [h]; simp
theorem ne_f {a b : List UInt8} (h : a ≠ b) : (!((ofL a).toList == (ofL b).toList)) = true := by
 rw [Bool.not_eq_true',beq_eq_false_iff_ne];intro e;apply h;have:=congrArg ByteArray.mk (congrArg List.toArray (show (ofL a).data.toList=(ofL b).data.toList by rw [<-Lib.toList_data,<-Lib.toList_data];exact e));simpa [ofL] using this
open Classical in
theorem C6i {b : List UInt8} {h : HeadN} {d r : List UInt8} {e : Int} (hb : A4b b = (h,d,r,e)) (he : ¬ e = 0) : A6s b = (A2m,0,e) := by
 unfold A6s;rw [hb];simp only;rw [if_pos he]
open Classical in
theorem C5i {b : List UInt8} {h : HeadN} {d r : List UInt8} (hb : A4b b = (h,d,r,0)) (ht : h.typ = 120) {l : List Rec} {e : Int} (hp : A2r (ofL d) = (l,e)) (he : ¬ e = 0) : A6s b = (A2m,0,e) := by
 unfold A6s;rw [hb];simp only;rw [if_neg (by simp),if_neg (by simpa using ht),hp];simp only;rw [if_pos he]
open Classical in
theorem C4i {b : List UInt8} {h : HeadN} {d r : List UInt8} (hb : A4b b = (h,d,r,0)) (ht : h.typ = 120) {l : List Rec} (hp : A2r (ofL d) = (l,0)) {h2 : HeadN} {d2 r2 : List UInt8} {e : Int} (hb2 : A4b r = (h2,d2,r2,e)) (he : ¬ e = 0) : A6s b = (A2m,0,e) := by
 unfold A6s;rw [hb];simp only;rw [if_neg (by simp),if_neg (by simpa using ht),hp];simp only;rw [if_neg (by simp),hb2];simp only;rw [if_pos he]
open Classical in
theorem C2a {b : List UInt8} {h : HeadN} {d r : List UInt8} (hb : A4b b = (h,d,r,0)) (ht : ¬ h.typ = 120) : A6s b = B3g b (b.length - r.length) h [] d := by
 unfold A6s;rw [hb];simp only;rw [if_neg (by simp),if_pos ht]
open Classical in
theorem C5u {b : List UInt8} {h : HeadN} {d r : List UInt8} (hb : A4b b = (h,d,r,0)) (ht : h.typ = 120) {l : List Rec} (hp : A2r (ofL d) = (l,0)) {h2 : HeadN} {d2 r2 : List UInt8} (hb2 : A4b r = (h2,d2,r2,0)) : A6s b = B3g b (b.length - r2.length) h2 l d2 := by
 unfold A6s;rw [hb];simp only;rw [if_neg (by simp),if_neg (by simpa using ht),hp];simp only;rw [if_neg (by simp),hb2];simp only;rw [if_neg (by simp)]
open Classical in
theorem B7v {b : List UInt8} {n : Nat} {h : HeadN} {l : List Rec} {d : List UInt8} {m : List UInt8} {e : Int} (hm : A6k (A3i h l none 0 d) = (m,e)) (hne : ¬ (m = b.take n ∧ e = 0)) : B3g b n h l d = (A2m,0,3) := by
 unfold B3g;rw [hm,if_neg];intro e2;simp only [Prod.mk.injEq] at e2;exact hne e2
open Classical in
theorem D0t {b : List UInt8} {n : Nat} {h : HeadN} {l : List Rec} {d : List UInt8} {m : List UInt8} {e : Int} (hm : A6k (A3i h l none 0 d) = (m,e)) (h1 : m = b.take n) (h2 : e = 0) : B3g b n h l d = (A3i h l none 0 d,(n : Int),0) := by
 unfold B3g;rw [hm,if_pos (by rw [h1,h2])]
theorem B8x (x : Ent) : (A6k x).1.length ≤ 30000 := by
 by_cases h:A1b x=0
 ·rw [C3a h];have h1:=D9s (A8o x);have h2:=F3d (A7u x) x.data;have h3:=(C4e h).data;unfold F8o;simp only [List.length_append];omega
 ·rw [B2t h];simp
theorem A5q {b : List UInt8} {h : HeadN} {d r : List UInt8} {e : Int} (hb : A4b b = (h,d,r,e)) (he : e = 0) : d.length ≤ b.length ∧ r.length ≤ b.length := by
 subst he;have h1:=D8d (b:=b) (by rw [hb]);rw [hb] at h1;simp only at h1;have h2:d.length<=(A3f d).length:=by unfold A3f;rw [List.length_append];omega
 omega
structure KeyOn {κ : Type} [DecidableEq κ] (kind : TypeDesc) (mk : κ → Value) : Prop where
 same:∀ a b,Instr.sameNow kind (mk a) (mk b)=some (decide (a=b))
 bits:∀ a,Instr.sameBits 10000 (mk a) (mk a)=true
 check:∀ {P:Program} {t:TypeId} (w:World) (a:κ),P.underlying t=some kind->(Instr.checkKey false 10000 t (mk a)).run P w=.ok () w
 checkE:∀ {P:Program} {t:TypeId} (w:World) (a:κ),P.underlying t=some kind->(Instr.checkKey true 10000 t (mk a)).run P w=.ok () w
theorem A0t (b : Bool) (t : TypeId) (v : Value) : Instr.checkKey b 10000 t v = Instr.checkKey b (9999 + 1) t v := rfl
theorem bab (a b : ByteArray) : (a == b) = decide (a = b) := by
 have h:(a==b)=(a.data==b.data):=rfl;rw [h,Bool.eq_iff_iff,beq_iff_eq,decide_eq_true_iff];exact ⟨fun h=>ByteArray.ext h,fun h=>by rw [h]⟩
theorem A7q : KeyOn (.int .i64) (fun n : Int => Value.int .i64 n) where
 same a b:=by simp [Instr.sameNow,Bool.beq_eq_decide_eq]
 bits a:=by simp [Instr.sameBits]
 check w a h:=by rw [A0t];unfold Instr.checkKey;simp [run_underlying h,Result.andThen]
 checkE w a h:=by rw [A0t];unfold Instr.checkKey;simp [run_underlying h,Result.andThen]
theorem B2b : KeyOn .string (fun s : ByteArray => Value.string s) where
 same a b:=by simp [Instr.sameNow,bab]
 bits a:=by simp [Instr.sameBits,bab]
 check w a h:=by rw [A0t];unfold Instr.checkKey;simp [run_underlying h,Result.andThen]
 checkE w a h:=by rw [A0t];unfold Instr.checkKey;simp [run_underlying h,Result.andThen]
section
variable {κ : Type} [DecidableEq κ]
def A2v (k : κ) : List (κ × Value) → Option Value
 | []=>none
 | p::r=>if k=p.1 then some p.2 else A2v k r
def A6f (k : κ) (v : Value) : List (κ × Value) → List (κ × Value)
 | []=>[(k,v)]
 | p::r=>if k=p.1 then (k,v)::r else p::A6f k v r
theorem B4h (k k' : κ) (v : Value) : ∀ l,A2v k' (A6f k v l) = if k' = k then some v else A2v k' l
 | []=>by simp [A6f,A2v]
 | p::r=>by
   have ih:=B4h k k' v r;unfold A6f;by_cases h:k=p.1
   ·rw [if_pos h];unfold A2v;by_cases h2:k'=k
    ·simp [h2]
    ·rw [if_neg h2,if_neg h2,if_neg (by rw [<-h];exact h2)]
   ·rw [if_neg h];unfold A2v;by_cases h2:k'=p.1
    ·rw [if_pos h2,if_pos h2,if_neg (by rw [h2];exact fun e=>h e.symm)]
    ·rw [if_neg h2,if_neg h2,ih]
def A0i (mk : κ → Value) (w : World) (b : Nat) (l : List (κ × Value)) : Prop :=
 ∃ es clock,w.heap[b]?=some (.map es clock)/\es.toList.map (fun e=>(e.key,e.val))=l.map (fun p=>(mk p.1,p.2))
theorem A0i.lt {mk : κ → Value} {w : World} {b : Nat} {l : List (κ × Value)} (h : A0i mk w b l) : b < w.heap.size := by
 obtain ⟨es,clock,hb,_⟩:=h;exact (ltO hb)
theorem A0i.below {mk : κ → Value} {w w' : World} {b : Nat} {l : List (κ × Value)} {B : Nat} (h : A0i mk w b l) (hb : Below B w w') (hB : b < B) : A0i mk w' b l := by
 obtain ⟨es,clock,h1,h2⟩:=h;exact ⟨es,clock,(hb.block b hB).trans h1,h2⟩
theorem A0i.of_heap {mk : κ → Value} {w w' : World} {b : Nat} {l : List (κ × Value)} (h : A0i mk w b l) (hb : w'.heap[b]? = w.heap[b]?) : A0i mk w' b l := by
 obtain ⟨es,clock,h1,h2⟩:=h;exact ⟨es,clock,hb.trans h1,h2⟩
theorem A0i.made (mk : κ → Value) (w : World) : A0i mk (w.alloc (.map #[] 0)) w.heap.size ([] : List (κ × Value)) := ⟨#[],0,heap_alloc_new w _,rfl⟩
theorem B5b {kind : TypeDesc} {mk : κ → Value} (K : KeyOn kind mk) (k : κ) (u : Value) : ∀ (es : List MapEntry) (l : List (κ × Value)) (i : Nat),es.map (fun e => (e.key,e.val)) = l.map (fun p => (mk p.1,p.2)) →
 (A2v k l=none/\Instr.findNow kind (mk k) es i=some none/\A6f k u l=l++[(k,u)]) ∨
 ∃ j v e,A2v k l=some v/\Instr.findNow kind (mk k) es i=some (some (i+j,v))/\es[j]?=some e/\e.key=mk k/\(es.modify j (fun e=>{ e with key:=mk k,val:=u })).map (fun e=>(e.key,e.val))=(A6f k u l).map (fun p=>(mk p.1,p.2))
 | [],[],_,_ => .inl ⟨rfl,rfl,rfl⟩
 | [],p::l,_,h=>by simp at h
 | e::es,[],_,h=>by simp at h
 | e::es,p::l,i,h=>by
   simp only [List.map_cons,List.cons.injEq,Prod.mk.injEq] at h;obtain ⟨⟨hk,hv⟩,hr⟩:=h;have hs:=K.same k p.1;by_cases hkp:k=p.1
   ·right;refine ⟨0,p.2,e,by simp [A2v,hkp],?_,rfl,by rw [hk,hkp],?_⟩
    ·unfold Instr.findNow;rw [hk,hs,hkp];simp [hv]
    ·simp [A6f,hkp,hr]
   ·have hf:Instr.findNow kind (mk k) (e::es) i=Instr.findNow kind (mk k) es (i+1):=by
     conv=>lhs;unfold Instr.findNow
     rw [hk,hs];simp [hkp]
    rcases B5b K k u es l (i+1) hr with ⟨h1,h2,h3⟩|⟨j,v,e',h1,h2,h3,h4,h5⟩
    ·left;exact ⟨by simp [A2v,hkp,h1],by rw [hf,h2],by simp [A6f,hkp,h3]⟩
    ·right;refine ⟨j+1,v,e',by simp [A2v,hkp,h1],by rw [hf,h2];congr 3;omega,by simpa using h3,h4,?_⟩;simp [A6f,hkp,h5,hk,hv]
variable {P : Program} {w : World} {mk : κ → Value} {kind : TypeDesc} {b : Nat} {l : List (κ × Value)}
theorem A0i.checked (K : KeyOn kind mk) {k : TypeId} (hk : P.underlying k = some kind) (c : Bool) (a : κ) : (Instr.checkKey c 10000 k (mk a)).run P w = .ok () w := by
 cases c
 ·exact K.check w a hk
 ·exact K.checkE w a hk
theorem A0i.look_some (h : A0i mk w b l) (K : KeyOn kind mk) {t k e : TypeId} (ht : P.underlying t = some (.map k e)) (hk : P.underlying k = some kind) {a : κ} {v : Value} (ha : A2v a l = some v) (ok : Bool) :
 (Instr.lookup t (.map (some b)) (mk a) ok).run P w=.ok (if ok then .tuple #[v,.bool true] else v) w:=by
 obtain ⟨es,clock,hb,hes⟩:=h;rcases B5b K a undef es.toList l 0 hes with ⟨h1,_⟩|⟨j,v',e',h1,h2,_⟩
 ·rw [h1] at ha;cases ha
 ·rw [h1] at ha;cases ha
  unfold Instr.lookup Instr.findKey;simp only [Sem.run_bind,run_underlying ht,Result.andThen_ok,MapKept.run_getObj_map hb,A0i.checked K hk,run_underlying hk,h2,Sem.run_pure]
theorem A0i.look_none (h : A0i mk w b l) (K : KeyOn kind mk) {t k e : TypeId} (ht : P.underlying t = some (.map k e)) (hk : P.underlying k = some kind) {a : κ} {z : Value} (ha : A2v a l = none) (hz : (zeroValue e).run P w = .ok z w) (ok : Bool) :
 (Instr.lookup t (.map (some b)) (mk a) ok).run P w=.ok (if ok then .tuple #[z,.bool false] else z) w:=by
 obtain ⟨es,clock,hb,hes⟩:=h;rcases B5b K a undef es.toList l 0 hes with ⟨h1,h2,_⟩|⟨j,v',e',h1,h2,_⟩
 ·unfold Instr.lookup Instr.findKey;simp only [Sem.run_bind,run_underlying ht,Result.andThen_ok,MapKept.run_getObj_map hb,A0i.checked K hk,run_underlying hk,h2,Sem.run_pure,hz]
 ·rw [h1] at ha;cases ha
theorem A0i.put (h : A0i mk w b l) (K : KeyOn kind mk) {t k e : TypeId} (ht : P.underlying t = some (.map k e)) (hk : P.underlying k = some kind) (a : κ) (u : Value) :
 ∃ w',(Instr.mapUpdate t (.map (some b)) (mk a) u).run P w=.ok () w'/\A0i mk w' b (A6f a u l)/\w.grownBy w' (some b):=by
 obtain ⟨es,clock,hb,hes⟩:=h;have hlt:b<w.heap.size:=(ltO hb);rcases B5b K a u es.toList l 0 hes with ⟨h1,h2,h3⟩|⟨j,v',e',h1,h2,h3,h4,h5⟩
 ·refine ⟨_,by
   unfold Instr.mapUpdate Instr.findKey;simp only [Sem.run_bind,run_underlying ht,Result.andThen_ok,MapKept.run_getObj_map hb,A0i.checked K hk,run_underlying hk,h2,Sem.run_pure];exact MapKept.run_setObj_map _ hb,?_,?_⟩
  ·refine ⟨_,_,by simp [hlt];exact ⟨rfl,rfl⟩,?_⟩;rw [h3];simp [hes]
  ·exact ⟨rfl,rfl,rfl,by simp,fun i _ hi=>by
    simp only [Array.getElem?_setIfInBounds];rw [if_neg (fun e=>hi (by rw [e]))]⟩
 ·have hej:es[j]?=some e':=by simpa using h3
  refine ⟨_,by
   unfold Instr.mapUpdate Instr.findKey Instr.keyThatStays;simp only [Sem.run_bind,run_underlying ht,Result.andThen_ok,MapKept.run_getObj_map hb,A0i.checked K hk,run_underlying hk,h2,Sem.run_pure,Nat.zero_add,hej,Option.map_some,Option.getD_some,h4,K.bits,if_true];exact MapKept.run_setObj_map _ hb,?_,?_⟩
  ·refine ⟨_,_,by simp [hlt];exact ⟨rfl,rfl⟩,?_⟩;rw [<-h5];simp [Array.toList_modify]
  ·exact ⟨rfl,rfl,rfl,by simp,fun i _ hi=>by
    simp only [Array.getElem?_setIfInBounds];rw [if_neg (fun e=>hi (by rw [e]))]⟩
end
theorem B4o {κ : Type} [DecidableEq κ] {P : Program} {kind : TypeDesc} {mk : κ → Value} (K : KeyOn kind mk) {t k e : TypeId} (ht : P.underlying t = some (.map k e)) (hk : P.underlying k = some kind)
 (es:Array MapEntry) (clock:Nat) (a:κ) (u:Value) (hn:Instr.findNow kind (mk a) es.toList 0=some none) (W:World) :
 (Instr.mapUpdate t (.map (some W.heap.size)) (mk a) u).run P (W.alloc (.map es clock))=.ok () (W.alloc (.map (es.push { key:=mk a,val:=u,born:=clock }) (clock+1))):=by
 have hb:(W.alloc (.map es clock)).heap[W.heap.size]?=some (.map es clock):=heap_alloc_new W _;unfold Instr.mapUpdate Instr.findKey;simp only [Sem.run_bind,run_underlying ht,Result.andThen_ok,MapKept.run_getObj_map hb,A0i.checked K hk,run_underlying hk,hn,Sem.run_pure];rw [MapKept.run_setObj_map _ hb];congr 1;simp only [World.alloc];congr 1;apply Array.ext_getElem?;intro i;simp only [Array.getElem?_setIfInBounds,Array.getElem?_push,Array.size_push];by_cases hi:W.heap.size=i
 ·subst hi;simp
 ·rw [if_neg hi,if_neg (fun e=>hi e.symm),if_neg (fun e=>hi e.symm)]
end Go.Creel
