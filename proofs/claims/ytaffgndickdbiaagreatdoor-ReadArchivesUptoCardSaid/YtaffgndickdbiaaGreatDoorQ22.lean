/-
  Texts: NodsOwn, EntsOwn, SetRow, MemLaw.
-/
import Derived.Test.YtaffgndickdbiaaGreatDoorQ21
set_option linter.unusedVariables false
set_option linter.unusedSimpArgs false
set_option linter.unusedSectionVars false
namespace Go.Creel
open Go.RowKit
def Nod.bare (x : Nod) : Nod := { x with da := none,dcap := 0 }
def NodIn (w : World) (v : Value) (x : Nod) : Prop := x.Ok maxLen w ∧ ∀ a,0 < x.data.length → x.da = some a → v.ownBlock ≠ some a.block
def OwnNods (t : TypeId) (w : World) (B : Nat) (v : Value) (l : List Nod) : Prop := w.ownsRow B t 12 v l.length (l.flatMap Nod.cells) ∧ ∀ x,x ∈ l → NodIn w v x
theorem Nod.cells_len (x : Nod) : x.cells.length = 12 := rfl
theorem flat_at : ∀ (l : List Nod) (k j : Nat),k < l.length → j < 12 → (l.flatMap Nod.cells)[k * 12 + j]? = (nk l k).cells[j]?
 | [],_,_,h,_=>absurd h (by simp)
 | x::r,0,j,_,hj=>by
   rw [List.flatMap_cons,Nat.zero_mul,Nat.zero_add,List.getElem?_append_left (by rw [Nod.cells_len];omega)]
   rfl
 | x::r,k+1,j,hk,hj=>by
   rw [List.flatMap_cons,List.getElem?_append_right (by rw [Nod.cells_len];omega),Nod.cells_len]
   have e:(k+1)*12+j-12=k*12+j:=by omega
   rw [e,flat_at r k j (by simpa using hk) hj]
   rfl
theorem flat_set : ∀ (l : List Nod) (k j : Nat) (y : Nod) (u : Value),k < l.length → j < 12 → y.cells = (nk l k).cells.set j u → (l.flatMap Nod.cells).set (k * 12 + j) u = (l.set k y).flatMap Nod.cells
 | [],_,_,_,_,h,_,_=>absurd h (by simp)
 | x::r,0,j,y,u,_,hj,hy=>by
   rw [List.flatMap_cons,Nat.zero_mul,Nat.zero_add,List.set_append_left _ _ (by rw [Nod.cells_len];omega),List.set_cons_zero,List.flatMap_cons,hy]
   rfl
 | x::r,k+1,j,y,u,hk,hj,hy=>by
   rw [List.flatMap_cons,List.set_append_right _ _ (by rw [Nod.cells_len];omega),Nod.cells_len]
   have e:(k+1)*12+j-12=k*12+j:=by omega
   rw [e,flat_set r k j y u (by simpa using hk) hj hy,List.set_cons_succ,List.flatMap_cons]
theorem ownsRow_below {w w' : World} {B size n : Nat} {t : TypeId} {v : Value} {xs : List Value} (h : w.ownsRow B t size v n xs) (hb : Below w.heap.size w w') : w'.ownsRow B t size v n xs := by
 refine ⟨h.1,?_⟩
 rcases h.2 with h0|⟨g,cap,cur,hv,hbg,hg,r⟩
 ·exact .inl h0
 ·refine .inr ⟨g,cap,cur,hv,hbg,?_,r⟩
  rw [hb.block g (Array.getElem?_eq_some_iff.1 hg).1]
  exact hg
theorem bytesC_grown {w w' : World} {row : Option Nat} {a : Option Addr} {cap : Nat} {l : List UInt8} (h : SliceC maxLen 1 ByteC w [.slice a l.length cap] l) (hg : w.grownBy w' row) (hne : ∀ p,0 < l.length → a = some p → row ≠ some p.block) : SliceC maxLen 1 ByteC w' [.slice a l.length cap] l := by
 obtain ⟨a',cap',hv,h1,h2,h3,h5,h4⟩:=h
 simp only [List.cons.injEq,Value.slice.injEq,and_true,true_and] at hv
 obtain ⟨rfl,rfl⟩:=hv
 refine ⟨a,cap,rfl,h1,h2,h3,h5,fun hl=>?_⟩
 obtain ⟨b,off,rfl,hc⟩:=h4 hl
 refine ⟨b,off,rfl,fun i hi=>?_⟩
 obtain ⟨c,hcl,hcc,hE⟩:=hc i hi
 refine ⟨c,hcl,fun j hj=>?_,hE⟩
 have hx:=hcc j hj
 obtain ⟨u,hu⟩:∃ u,c[j]?=some u:=⟨c[j],List.getElem?_eq_getElem (by omega)⟩
 rw [hu] at hx ⊢
 exact hg.cell hx (fun e=>hne _ hl rfl e.symm)
theorem bytesC_lt {w : World} {a : Option Addr} {cap : Nat} {l : List UInt8} (h : SliceC maxLen 1 ByteC w [.slice a l.length cap] l) (p : Addr) (hl : 0 < l.length) (hp : a = some p) : p.block < w.heap.size := by
 obtain ⟨a',cap',hv,h1,h2,h3,h5,h4⟩:=h
 simp only [List.cons.injEq,Value.slice.injEq,and_true,true_and] at hv
 obtain ⟨rfl,rfl⟩:=hv
 obtain ⟨b,off,he,hc⟩:=h4 hl
 obtain ⟨c,hcl,hcc,hE⟩:=hc 0 hl
 have hx:=hcc 0 (by omega)
 rw [List.getElem?_eq_getElem (by omega)] at hx
 rw [hp] at he
 cases he
 exact World.block_lt_of_cell? w ⟨b,_,none⟩ hx
theorem Nod.Ok.grown {w w' : World} {x : Nod} {row : Option Nat} (h : x.Ok maxLen w) (hg : w.grownBy w' row) (hne : ∀ p,0 < x.data.length → x.da = some p → row ≠ some p.block) : x.Ok maxLen w' :=
 ⟨h.path,h.kind,h.same,h.target,h.mt,bytesC_grown h.data hg hne⟩
theorem Nod.Ok.lt {w : World} {x : Nod} (h : x.Ok maxLen w) (p : Addr) (hl : 0 < x.data.length) (hp : x.da = some p) : p.block < w.heap.size := bytesC_lt h.data p hl hp
section
variable {t : TypeId} {w w' : World} {B : Nat} {v v' : Value} {l m : List Nod}
theorem NodIn.below {x : Nod} (h : NodIn w v x) (hb : Below w.heap.size w w') : NodIn w' v x := ⟨h.1.below hb,h.2⟩
theorem OwnNods.nil (t : TypeId) (w : World) (B : Nat) : OwnNods t w B (.slice none 0 0) [] := ⟨World.ownsRow_nil w B t 12,fun x hx => absurd hx (by simp)⟩
theorem OwnNods.below (h : OwnNods t w B v l) (hb : Below w.heap.size w w') : OwnNods t w' B v l := ⟨ownsRow_below h.1 hb,fun x hx => (h.2 x hx).below hb⟩
theorem OwnNods.mono {B' : Nat} (h : OwnNods t w B v l) (hb : B' ≤ B) : OwnNods t w B' v l := by
 refine ⟨⟨h.1.1,?_⟩,h.2⟩
 rcases h.1.2 with ⟨rfl,h0⟩|⟨g,cap,cur,rfl,hbg,r⟩
 ·exact .inl ⟨rfl,h0⟩
 ·exact .inr ⟨g,cap,cur,rfl,Nat.le_trans hb hbg,r⟩
theorem OwnNods.slice (h : OwnNods t w B v l) (hl : l.length ≤ maxLen) : SliceC maxLen 12 (NodC maxLen) w [v] l := by
 rcases h.1.2 with ⟨rfl,h0⟩|⟨g,cap,cur,rfl,hbg,hg,hnc,hcm,hcs,htake⟩
 ·obtain rfl:=List.eq_nil_of_length_eq_zero h0
  exact ⟨none,0,rfl,by simp,by simp,by simp,fun _=>rfl,fun h=>absurd h (by simp)⟩
 ·refine ⟨some ⟨g,0,none⟩,cap,rfl,hnc,hcm,hl,(fun h=>by cases h),fun _=>⟨g,0,rfl,fun i hi=>⟨(l[i]).cells,rfl,fun j hj=>?_,rfl,(h.2 _ (List.getElem_mem hi)).1⟩⟩⟩
  rw [Nat.zero_add,h.1.cellAt _ (by omega),flat_at l i j hi hj,nk_eq hi]
theorem OwnNods.form (h : OwnNods t w B v l) : (v = .slice none 0 0 ∧ l = []) ∨ ∃ g cap,v = .slice (some ⟨g,0,none⟩) l.length cap ∧ B ≤ g ∧ g < w.heap.size ∧ l.length ≤ cap ∧ cap ≤ maxLen := by
 rcases h.1.2 with ⟨rfl,h0⟩|⟨g,cap,cur,rfl,hbg,hg,hnc,hcm,hcs,htake⟩
 ·exact .inl ⟨rfl,List.eq_nil_of_length_eq_zero h0⟩
 ·exact .inr ⟨g,cap,rfl,hbg,(Array.getElem?_eq_some_iff.1 hg).1,hnc,hcm⟩
theorem OwnNods.nodAt {g cap : Nat} (h : OwnNods t w B (.slice (some ⟨g,0,none⟩) l.length cap) l) {k : Nat} (hk : k < l.length) : NodAt w g (k * 12) (nk l k) := by
 have c:=fun j hj=>(h.1.cellAt (k*12+j) (by omega)).trans (flat_at l k j hk hj)
 exact ⟨c 0 (by omega),c 1 (by omega),c 2 (by omega),c 3 (by omega),c 4 (by omega),c 5 (by omega),c 6 (by omega),c 7 (by omega),c 8 (by omega),c 9 (by omega),c 10 (by omega),c 11 (by omega)⟩
theorem OwnNods.nodIn (h : OwnNods t w B v l) {k : Nat} (hk : k < l.length) : NodIn w v (nk l k) := by
 rw [nk_eq hk]
 exact h.2 _ (List.getElem_mem hk)
theorem OwnNods.app (h : OwnNods t w B v l) (hm : ∀ x,x ∈ m → NodIn w v x) (ho : w'.ownsRow B t 12 v' (l.length + m.length) (l.flatMap Nod.cells ++ m.flatMap Nod.cells)) (hg : w.grownBy w' v.ownBlock)
 (hv:v'.ownBlock=v.ownBlock\/∃ b,v'.ownBlock=some b/\w.heap.size<=b):OwnNods t w' B v' (l++m):=by
 refine ⟨by rw [List.length_append,List.flatMap_append];exact ho,fun x hx=>?_⟩
 have hin:NodIn w v x:=by
  rcases List.mem_append.1 hx with a|a
  ·exact h.2 x a
  ·exact hm x a
 refine ⟨hin.1.grown hg hin.2,fun a hp ha=>?_⟩
 rcases hv with e|⟨b,e,hb⟩
 ·rw [e];exact hin.2 a hp ha
 ·rw [e]
  intro e2
  have h3:=hin.1.lt a hp ha
  simp only [Option.some.injEq] at e2
  omega
theorem OwnNods.put {g cap k j : Nat} (h : OwnNods t w B (.slice (some ⟨g,0,none⟩) l.length cap) l) (hk : k < l.length) (hj : j < 12) (y : Nod) (u : Value) (hy : y.cells = (nk l k).cells.set j u)
 (hin:NodIn w (.slice (some ⟨g,0,none⟩) l.length cap) y):OwnNods t (w.setCell ⟨g,k*12+j,none⟩ u) B (.slice (some ⟨g,0,none⟩) l.length cap) (l.set k y)/\w.grownBy (w.setCell ⟨g,k*12+j,none⟩ u) (some g):=by
 obtain ⟨h1,h2⟩:=h.1.stored (k*12+j) u
 refine ⟨⟨?_,fun x hx=>?_⟩,h2⟩
 ·rw [flat_set l k j y u hk hj hy] at h1
  rw [List.length_set]
  exact h1
 ·have hin':NodIn w (.slice (some ⟨g,0,none⟩) l.length cap) x:=by
   rcases List.mem_or_eq_of_mem_set hx with a|a
   ·exact h.2 x a
   ·rw [a];exact hin
  exact ⟨hin'.1.grown h2 hin'.2,hin'.2⟩
end
theorem src_nod {P : Program} (w : World) (tx e' e : TypeId) (hk : P.underlying tx = some (.slice e')) (x : Nod) : Src P 12 tx (.slice (some ⟨w.heap.size,0,none⟩) 1 1) 1 ([x].flatMap Nod.cells) (w.alloc (.cells #[.string x.path,.int .i64 x.kind,.int .i64 x.same,.string x.target,.int .i64 x.mt.mode,.int .i64 x.mt.uid,.int .i64 x.mt.gid,.string x.mt.user,.string x.mt.group,.int .i64 x.mt.second,.int .i64 x.mt.nano,.slice x.da x.data.length x.dcap] e)) := by
 refine Src.ofSlice _ hk ⟨w.heap.size,0,none⟩ 1 1 _ rfl (fun j u hu=>?_) (fun u hu=>?_)
 ·have hj:j<12:=by
   rcases Nat.lt_or_ge j 12 with h|h
   ·exact h
   ·rw [List.getElem?_eq_none (by simpa [Nod.cells] using h)] at hu;cases hu
  have e:(⟨w.heap.size,0,none⟩:Addr).add j=⟨w.heap.size,j,none⟩:=by unfold Addr.add;split<;>simp_all
  rw [e,World.cell?_alloc_new]
  simpa [Nod.cells] using hu
 ·simp [Nod.cells] at hu
  rcases hu with rfl|rfl|rfl|rfl|rfl|rfl|rfl|rfl|rfl|rfl|rfl|rfl<;>rfl
def RetT (t : TypeId) (w : World) (l : List Nod) (e : Ending) (w' : World) : Prop := ∃ v l',e = .returned v ∧ OwnNods t w' w.heap.size v l' ∧ l'.map Nod.bare = l.map Nod.bare ∧ Below w.heap.size w w'
def RetTE (t : TypeId) (w : World) (p : List Nod × Int) (e : Ending) (w' : World) : Prop := ∃ v l',e = .returned (.tuple #[v,.int .i64 p.2]) ∧ OwnNods t w' w.heap.size v l' ∧ l'.map Nod.bare = p.1.map Nod.bare ∧ Below w.heap.size w w'
open Go.RowKit
def Ent.bare (x : Ent) : Ent := { x with da := none,dcap := 0 }
def EntIn (w : World) (v : Value) (x : Ent) : Prop := x.Ok maxLen w ∧ ∀ a,0 < x.data.length → x.da = some a → v.ownBlock ≠ some a.block
def OwnEnts (t : TypeId) (w : World) (B : Nat) (v : Value) (l : List Ent) : Prop := w.ownsRow B t 11 v l.length (l.flatMap Ent.cells) ∧ ∀ x,x ∈ l → EntIn w v x
theorem Ent.cells_len (x : Ent) : x.cells.length = 11 := rfl
theorem flatE_at : ∀ (l : List Ent) (k j : Nat),k < l.length → j < 11 → (l.flatMap Ent.cells)[k * 11 + j]? = (ek l k).cells[j]?
 | [],_,_,h,_=>absurd h (by simp)
 | x::r,0,j,_,hj=>by
   rw [List.flatMap_cons,Nat.zero_mul,Nat.zero_add,List.getElem?_append_left (by rw [Ent.cells_len];omega)]
   rfl
 | x::r,k+1,j,hk,hj=>by
   rw [List.flatMap_cons,List.getElem?_append_right (by rw [Ent.cells_len];omega),Ent.cells_len]
   have e:(k+1)*11+j-11=k*11+j:=by omega
   rw [e,flatE_at r k j (by simpa using hk) hj]
   rfl
theorem flatE_set : ∀ (l : List Ent) (k j : Nat) (y : Ent) (u : Value),k < l.length → j < 11 → y.cells = (ek l k).cells.set j u → (l.flatMap Ent.cells).set (k * 11 + j) u = (l.set k y).flatMap Ent.cells
 | [],_,_,_,_,h,_,_=>absurd h (by simp)
 | x::r,0,j,y,u,_,hj,hy=>by
   rw [List.flatMap_cons,Nat.zero_mul,Nat.zero_add,List.set_append_left _ _ (by rw [Ent.cells_len];omega),List.set_cons_zero,List.flatMap_cons,hy]
   rfl
 | x::r,k+1,j,y,u,hk,hj,hy=>by
   rw [List.flatMap_cons,List.set_append_right _ _ (by rw [Ent.cells_len];omega),Ent.cells_len]
   have e:(k+1)*11+j-11=k*11+j:=by omega
   rw [e,flatE_set r k j y u (by simpa using hk) hj hy,List.set_cons_succ,List.flatMap_cons]
theorem Ent.Ok.grown {w w' : World} {x : Ent} {row : Option Nat} (h : x.Ok maxLen w) (hg : w.grownBy w' row) (hne : ∀ p,0 < x.data.length → x.da = some p → row ≠ some p.block) : x.Ok maxLen w' :=
 ⟨h.path,h.kind,h.target,h.mt,bytesC_grown h.data hg hne⟩
theorem Ent.Ok.lt {w : World} {x : Ent} (h : x.Ok maxLen w) (p : Addr) (hl : 0 < x.data.length) (hp : x.da = some p) : p.block < w.heap.size := bytesC_lt h.data p hl hp
section
variable {t : TypeId} {w w' : World} {B : Nat} {v v' : Value} {l m : List Ent}
theorem EntIn.below {x : Ent} (h : EntIn w v x) (hb : Below w.heap.size w w') : EntIn w' v x := ⟨h.1.below hb,h.2⟩
theorem OwnEnts.nil (t : TypeId) (w : World) (B : Nat) : OwnEnts t w B (.slice none 0 0) [] := ⟨World.ownsRow_nil w B t 11,fun x hx => absurd hx (by simp)⟩
theorem OwnEnts.below (h : OwnEnts t w B v l) (hb : Below w.heap.size w w') : OwnEnts t w' B v l := ⟨ownsRow_below h.1 hb,fun x hx => (h.2 x hx).below hb⟩
theorem OwnEnts.mono {B' : Nat} (h : OwnEnts t w B v l) (hb : B' ≤ B) : OwnEnts t w B' v l := by
 refine ⟨⟨h.1.1,?_⟩,h.2⟩
 rcases h.1.2 with ⟨rfl,h0⟩|⟨g,cap,cur,rfl,hbg,r⟩
 ·exact .inl ⟨rfl,h0⟩
 ·exact .inr ⟨g,cap,cur,rfl,Nat.le_trans hb hbg,r⟩
theorem OwnEnts.slice (h : OwnEnts t w B v l) (hl : l.length ≤ maxLen) : SliceC maxLen 11 (EntC maxLen) w [v] l := by
 rcases h.1.2 with ⟨rfl,h0⟩|⟨g,cap,cur,rfl,hbg,hg,hnc,hcm,hcs,htake⟩
 ·obtain rfl:=List.eq_nil_of_length_eq_zero h0
  exact ⟨none,0,rfl,by simp,by simp,by simp,fun _=>rfl,fun h=>absurd h (by simp)⟩
 ·refine ⟨some ⟨g,0,none⟩,cap,rfl,hnc,hcm,hl,(fun h=>by cases h),fun _=>⟨g,0,rfl,fun i hi=>⟨(l[i]).cells,rfl,fun j hj=>?_,rfl,(h.2 _ (List.getElem_mem hi)).1⟩⟩⟩
  rw [Nat.zero_add,h.1.cellAt _ (by omega),flatE_at l i j hi hj,ek_eq hi]
theorem OwnEnts.form (h : OwnEnts t w B v l) : (v = .slice none 0 0 ∧ l = []) ∨ ∃ g cap,v = .slice (some ⟨g,0,none⟩) l.length cap ∧ B ≤ g ∧ g < w.heap.size ∧ l.length ≤ cap ∧ cap ≤ maxLen := by
 rcases h.1.2 with ⟨rfl,h0⟩|⟨g,cap,cur,rfl,hbg,hg,hnc,hcm,hcs,htake⟩
 ·exact .inl ⟨rfl,List.eq_nil_of_length_eq_zero h0⟩
 ·exact .inr ⟨g,cap,rfl,hbg,(Array.getElem?_eq_some_iff.1 hg).1,hnc,hcm⟩
theorem OwnEnts.app (h : OwnEnts t w B v l) (hm : ∀ x,x ∈ m → EntIn w v x) (ho : w'.ownsRow B t 11 v' (l.length + m.length) (l.flatMap Ent.cells ++ m.flatMap Ent.cells)) (hg : w.grownBy w' v.ownBlock)
 (hv:v'.ownBlock=v.ownBlock\/∃ b,v'.ownBlock=some b/\w.heap.size<=b):OwnEnts t w' B v' (l++m):=by
 refine ⟨by rw [List.length_append,List.flatMap_append];exact ho,fun x hx=>?_⟩
 have hin:EntIn w v x:=by
  rcases List.mem_append.1 hx with a|a
  ·exact h.2 x a
  ·exact hm x a
 refine ⟨hin.1.grown hg hin.2,fun a hp ha=>?_⟩
 rcases hv with e|⟨b,e,hb⟩
 ·rw [e];exact hin.2 a hp ha
 ·rw [e]
  intro e2
  have h3:=hin.1.lt a hp ha
  simp only [Option.some.injEq] at e2
  omega
theorem OwnEnts.put {g cap k j : Nat} (h : OwnEnts t w B (.slice (some ⟨g,0,none⟩) l.length cap) l) (hk : k < l.length) (hj : j < 11) (y : Ent) (u : Value) (hy : y.cells = (ek l k).cells.set j u)
 (hin:EntIn w (.slice (some ⟨g,0,none⟩) l.length cap) y):OwnEnts t (w.setCell ⟨g,k*11+j,none⟩ u) B (.slice (some ⟨g,0,none⟩) l.length cap) (l.set k y)/\w.grownBy (w.setCell ⟨g,k*11+j,none⟩ u) (some g):=by
 obtain ⟨h1,h2⟩:=h.1.stored (k*11+j) u
 refine ⟨⟨?_,fun x hx=>?_⟩,h2⟩
 ·rw [flatE_set l k j y u hk hj hy] at h1
  rw [List.length_set]
  exact h1
 ·have hin':EntIn w (.slice (some ⟨g,0,none⟩) l.length cap) x:=by
   rcases List.mem_or_eq_of_mem_set hx with a|a
   ·exact h.2 x a
   ·rw [a];exact hin
  exact ⟨hin'.1.grown h2 hin'.2,hin'.2⟩
end
theorem src_ent {P : Program} (w : World) (tx e' e : TypeId) (hk : P.underlying tx = some (.slice e')) (x : Ent) : Src P 11 tx (.slice (some ⟨w.heap.size,0,none⟩) 1 1) 1 ([x].flatMap Ent.cells) (w.alloc (.cells #[.string x.path,.int .i64 x.kind,.string x.target,.int .i64 x.mt.mode,.int .i64 x.mt.uid,.int .i64 x.mt.gid,.string x.mt.user,.string x.mt.group,.int .i64 x.mt.second,.int .i64 x.mt.nano,.slice x.da x.data.length x.dcap] e)) := by
 refine Src.ofSlice _ hk ⟨w.heap.size,0,none⟩ 1 1 _ rfl (fun j u hu=>?_) (fun u hu=>?_)
 ·have hj:j<11:=by
   rcases Nat.lt_or_ge j 11 with h|h
   ·exact h
   ·rw [List.getElem?_eq_none (by simpa [Ent.cells] using h)] at hu;cases hu
  have e:(⟨w.heap.size,0,none⟩:Addr).add j=⟨w.heap.size,j,none⟩:=by unfold Addr.add;split<;>simp_all
  rw [e,World.cell?_alloc_new]
  simpa [Ent.cells] using hu
 ·simp [Ent.cells] at hu
  rcases hu with rfl|rfl|rfl|rfl|rfl|rfl|rfl|rfl|rfl|rfl|rfl<;>rfl
open Go.RowKit
def setRow (w : World) (b : Nat) : List Value → Nat → World
 | [],_=>w
 | v::vs,j=>setRow (w.setCell ⟨b,j,none⟩ v) b vs (j+1)
theorem grown_setC (w : World) (b j : Nat) (u : Value) : w.grownBy (w.setCell ⟨b,j,none⟩ u) (some b) :=
 ⟨rfl,rfl,rfl,by simp,fun i _ hi=>heap_setCell_other w _ i u (fun e=>hi (by rw [e]))⟩
theorem grown_two {a b c : World} {r : Nat} (h : a.grownBy b (some r)) (h2 : b.grownBy c (some r)) : a.grownBy c (some r) := h.andThen h2 (fun j hj => .inr hj)
theorem grown_row (b : Nat) : ∀ (vs : List Value) (w : World) (j : Nat),w.grownBy (setRow w b vs j) (some b)
 | [],w,_=>⟨rfl,rfl,rfl,Nat.le_refl _,fun _ _ _=>rfl⟩
 | v::vs,w,j=>grown_two (grown_setC w b j v) (grown_row b vs _ (j+1))
theorem setRow_row {b : Nat} {t : TypeId} : ∀ (vs : List Value) (w : World) (cs : Array Value) (j : Nat),w.heap[b]? = some (.cells cs t (0,0)) → j + vs.length ≤ cs.size →
 (setRow w b vs j).heap[b]?=some (.cells (cs.toList.take j++vs++cs.toList.drop (j+vs.length)).toArray t (0,0))
 | [],w,cs,j,h,hj=>by
   unfold setRow
   rw [h]
   simp
 | v::vs,w,cs,j,h,hj=>by
   simp only [List.length_cons] at hj
   unfold setRow
   rw [setRow_row vs _ _ (j+1) (heap_setCell_same w b j cs t v h) (by rw [Array.size_setIfInBounds];omega)]
   congr 2
   rw [Array.toList_setIfInBounds]
   have hl:j<cs.toList.length:=by rw [Array.length_toList];omega
   rw [List.take_add_one,List.getElem?_set_self hl,List.take_set_of_le (Nat.le_refl j),List.drop_set_of_lt (by omega)]
   simp only [Option.toList_some,List.append_assoc,List.cons_append,List.nil_append,List.length_cons]
   rw [show j+1+vs.length=j+(vs.length+1) by omega]
theorem setRow_all {w : World} {b : Nat} {t : TypeId} {cs : Array Value} {vs : List Value} (h : w.heap[b]? = some (.cells cs t (0,0))) (hn : cs.size = vs.length) : (setRow w b vs 0).heap[b]? = some (.cells vs.toArray t (0,0)) := by
 rw [setRow_row vs w cs 0 h (by omega)]
 simp [hn]
theorem Below.setRow {B b : Nat} (hb : B ≤ b) : ∀ (vs : List Value) (w0 w : World) (j : Nat),Below B w0 w → Below B w0 (setRow w b vs j)
 | [],_,_,_,h=>h
 | v::vs,w0,w,j,h=>Below.setRow hb vs w0 _ (j+1) (h.setCell (p:=⟨b,j,none⟩) hb v)
theorem OwnBs.place {t : TypeId} {w : World} {B : Nat} {v : Value} {l : List UInt8} (h : OwnBs t w B v l) : ∃ a cap,v = .slice a l.length cap ∧ ∀ p,a = some p → B ≤ p.block ∧ p.block < w.heap.size := by
 rcases h.2 with ⟨rfl,h0⟩|⟨g,cap,cur,rfl,hbg,hg,hnc,hcm,hcs,htake⟩
 ·obtain rfl:l=[]:=List.eq_nil_of_length_eq_zero h0
  exact ⟨none,0,rfl,fun p hp=>by cases hp⟩
 ·refine ⟨_,cap,rfl,fun p hp=>?_⟩
  cases hp
  exact ⟨hbg,(Array.getElem?_eq_some_iff.1 hg).1⟩
def EntOut (w w' : World) (x y : Ent) : Prop := x.bare = y.bare ∧ x.Ok maxLen w' ∧ ∀ p,x.da = some p → w.heap.size ≤ p.block
def RetEnt (w : World) (p : Ent × Int × Int) (e : Ending) (w' : World) : Prop := ∃ x : Ent,e = .returned (.tuple #[x.val,.int .i64 p.2.1,.int .i64 p.2.2]) ∧ EntOut w w' x p.1 ∧ Below w.heap.size w w'
theorem entNone_out (w w' : World) : EntOut w w' entNone entNone := by
 refine ⟨rfl,⟨?_,?_,?_,?_,?_⟩,fun p hp=>by cases hp⟩
 ·simp [entNone]
 ·simp [entNone,i64]
 ·simp [entNone]
 ·constructor<;>simp [entNone,i64]
 ·show SliceC maxLen 1 ByteC w' [.slice none 0 0] []
  exact ⟨none,0,rfl,by simp,by simp,by simp,fun _=>rfl,fun h=>absurd h (by simp)⟩
theorem unpack_bare (h : HeadN) (l : List Rec) (da : Option Addr) (dcap : Nat) (d : List UInt8) : (unpackOf h l da dcap d).bare = (unpackOf h l none 0 d).bare := rfl
open Go.RowKit
theorem bytesBelow {N : Nat} {w w' : World} {v : Value} {l : List UInt8} (h : SliceC N 1 ByteC w [v] l) (hb : Below w.heap.size w w') : SliceC N 1 ByteC w' [v] l := h.below (fun _ _ h => h) hb
theorem results_cell_t3 {fn : Func} {p u x : Tmp} {ty : TypeId} (h : fn.results = #[.cell p ty,.tmp u,.tmp x]) (tmps : Array Value) (P : Program) (w : World) :
 (results fn tmps).run P w =
   ((asAddr (tmps.getD p undef)).run P w).andThen fun a w₁=>((loadVar ty a).run P w₁).andThen fun v w₂ => .ok (.tuple #[v,tmps.getD u undef,tmps.getD x undef]) w₂:=by
 simp only [results,h]
 simp [Sem.run_bind,Result.andThen]
theorem ne_t {a b : List UInt8} (h : a = b) : (!((ofL a).toList == (ofL b).toList)) = false := by rw [h]; simp
theorem ne_f {a b : List UInt8} (h : a ≠ b) : (!((ofL a).toList == (ofL b).toList)) = true := by
 rw [Bool.not_eq_true',beq_eq_false_iff_ne]
 intro e
 apply h
 have:=congrArg ByteArray.mk (congrArg List.toArray (show (ofL a).data.toList=(ofL b).data.toList by rw [<-Lib.toList_data,<-Lib.toList_data];exact e))
 simpa [ofL] using this
open Classical in
theorem memOf_bad1 {b : List UInt8} {h : HeadN} {d r : List UInt8} {e : Int} (hb : blockOf b = (h,d,r,e)) (he : ¬ e = 0) : memOf b = (entNone,0,e) := by
 unfold memOf;rw [hb];simp only;rw [if_pos he]
open Classical in
theorem memOf_bad2 {b : List UInt8} {h : HeadN} {d r : List UInt8} (hb : blockOf b = (h,d,r,0)) (ht : h.typ = 120) {l : List Rec} {e : Int} (hp : paxOf (ofL d) = (l,e)) (he : ¬ e = 0) : memOf b = (entNone,0,e) := by
 unfold memOf;rw [hb];simp only;rw [if_neg (by simp),if_neg (by simpa using ht),hp];simp only;rw [if_pos he]
open Classical in
theorem memOf_bad3 {b : List UInt8} {h : HeadN} {d r : List UInt8} (hb : blockOf b = (h,d,r,0)) (ht : h.typ = 120) {l : List Rec} (hp : paxOf (ofL d) = (l,0)) {h2 : HeadN} {d2 r2 : List UInt8} {e : Int} (hb2 : blockOf r = (h2,d2,r2,e)) (he : ¬ e = 0) : memOf b = (entNone,0,e) := by
 unfold memOf;rw [hb];simp only;rw [if_neg (by simp),if_neg (by simpa using ht),hp];simp only;rw [if_neg (by simp),hb2];simp only;rw [if_pos he]
open Classical in
theorem memOf_plain {b : List UInt8} {h : HeadN} {d r : List UInt8} (hb : blockOf b = (h,d,r,0)) (ht : ¬ h.typ = 120) : memOf b = memEnd b (b.length - r.length) h [] d := by
 unfold memOf;rw [hb];simp only;rw [if_neg (by simp),if_pos ht]
open Classical in
theorem memOf_pax {b : List UInt8} {h : HeadN} {d r : List UInt8} (hb : blockOf b = (h,d,r,0)) (ht : h.typ = 120) {l : List Rec} (hp : paxOf (ofL d) = (l,0)) {h2 : HeadN} {d2 r2 : List UInt8} (hb2 : blockOf r = (h2,d2,r2,0)) : memOf b = memEnd b (b.length - r2.length) h2 l d2 := by
 unfold memOf;rw [hb];simp only;rw [if_neg (by simp),if_neg (by simpa using ht),hp];simp only;rw [if_neg (by simp),hb2];simp only;rw [if_neg (by simp)]
open Classical in
theorem memEnd_bad {b : List UInt8} {n : Nat} {h : HeadN} {l : List Rec} {d : List UInt8} {m : List UInt8} {e : Int} (hm : memBytes (unpackOf h l none 0 d) = (m,e)) (hne : ¬ (m = b.take n ∧ e = 0)) : memEnd b n h l d = (entNone,0,3) := by
 unfold memEnd;rw [hm,if_neg];intro e2;simp only [Prod.mk.injEq] at e2;exact hne e2
open Classical in
theorem memEnd_ok {b : List UInt8} {n : Nat} {h : HeadN} {l : List Rec} {d : List UInt8} {m : List UInt8} {e : Int} (hm : memBytes (unpackOf h l none 0 d) = (m,e)) (h1 : m = b.take n) (h2 : e = 0) : memEnd b n h l d = (unpackOf h l none 0 d,(n : Int),0) := by
 unfold memEnd;rw [hm,if_pos (by rw [h1,h2])]
theorem memBytes_small (x : Ent) : (memBytes x).1.length ≤ 30000 := by
 by_cases h:entFault x=0
 ·rw [memBytes_ok h]
  have h1:=memPre_le (memRecs x)
  have h2:=memOwn_le (memHead x) x.data
  have h3:=(entRight h).data
  unfold memB
  simp only [List.length_append];omega
 ·rw [memBytes_bad h];simp
theorem blockOf_len {b : List UInt8} {h : HeadN} {d r : List UInt8} {e : Int} (hb : blockOf b = (h,d,r,e)) (he : e = 0) : d.length ≤ b.length ∧ r.length ≤ b.length := by
 subst he
 have h1:=blockOf_ok (b:=b) (by rw [hb])
 rw [hb] at h1
 simp only at h1
 have h2:d.length<=(padFill d).length:=by unfold padFill;rw [List.length_append];omega
 omega
end Go.Creel
