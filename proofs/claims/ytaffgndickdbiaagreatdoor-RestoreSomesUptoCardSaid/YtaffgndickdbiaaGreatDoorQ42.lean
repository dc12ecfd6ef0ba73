/-
  Texts: Grow, NodsPut, GrowL, GrowW.
-/
import Derived.Test.YtaffgndickdbiaaGreatDoorQ41
set_option linter.unusedVariables false
set_option linter.unusedSimpArgs false
set_option linter.unusedSectionVars false
namespace Go.Creel
open Go.RowKit
theorem stepE_link0 {l : List Ent} {i : Nat} (h : stepE l i = 0) : LinkOkE l i := by
 obtain ⟨h0,h1⟩:=stepE_zero h
 refine Classical.byContradiction fun e=>?_
 by_cases h2:UpOkE l i
 ·rw [stepE_link h0 h1 h2 e] at h;cases h
 ·rw [stepE_up h0 h1 h2] at h;cases h
theorem ents_ne {l : List Ent} (h : entsFault l = 0) {j k : Nat} (hjk : j < k) (hk : k < l.length) : (ek l j).path ≠ (ek l k).path :=
 chain_ne (p:=fun j=>(ek l j).path) (k:=k) (fun i h0 h1=>(stepE_zero ((entsFault_all h).2 i (by omega))).2 h0) j hjk
theorem ents_inj {l : List Ent} (h : entsFault l = 0) {j k : Nat} (hj : j < l.length) (hk : k < l.length) (he : (ek l j).path = (ek l k).path) : j = k := by
 rcases Nat.lt_trichotomy j k with e|e|e
 ·exact absurd he (ents_ne h e hk)
 ·exact e
 ·exact absurd he.symm (ents_ne h e hj)
theorem entFault_size {x : Ent} (h : entFault x = 0) : x.data.length ≤ 2000 ∧ (x.kind = 1 → x.target.size = 0) := by
 unfold entFault entFaultN at h
 split at h
 ·rename_i h1;exact absurd h h1
 ·split at h
  ·rename_i h1;exact absurd h h1
  ·split at h
   ·cases h
   ·split at h
    ·cases h
    ·rename_i h3
     split at h
     ·cases h
     ·rename_i h4
      refine ⟨by omega,fun hk=>?_⟩
      omega
def Ent.nod (x : Ent) (s : Int) : Nod := ⟨x.path,x.kind,s,x.target,x.mt,x.da,x.dcap,x.data⟩
def linkedTo (l : List Ent) (i q : Nat) : Bool := (List.range q).any fun j => decide ((ek l j).kind = 4) && ((ek l j).target.toList == (ek l i).path.toList) && decide ((ek l i).kind = 1)
theorem linkedTo_succ (l : List Ent) (i q : Nat) : linkedTo l i (q + 1) = (linkedTo l i q || (decide ((ek l q).kind = 4) && ((ek l q).target.toList == (ek l i).path.toList) && decide ((ek l i).kind = 1))) := by
 unfold linkedTo
 rw [List.range_succ,List.any_append]
 simp
def linkAt (l : List Ent) (i : Nat) : Nat := entFind (l.take i) (ek l i).target
def growN (l : List Ent) (q i : Nat) : Nod :=
 if (ek l i).kind=4 then { (ek l (linkAt l i)).nod ((linkAt l i:Int)+1) with path:=(ek l i).path } else (ek l i).nod (if linkedTo l i q=true then (i:Int)+1 else 0)
def growL (l : List Ent) (q : Nat) : List Nod := (List.range q).map (growN l q)
theorem growL_len (l : List Ent) (q : Nat) : (growL l q).length = q := by simp [growL]
theorem growL_at (l : List Ent) {q i : Nat} (h : i < q) : nk (growL l q) i = growN l q i := by
 rw [nk_eq (by rw [growL_len];exact h)]
 simp [growL]
theorem link_facts {l : List Ent} (h : entsFault l = 0) {i : Nat} (hi : i < l.length) (hk : (ek l i).kind = 4) : linkAt l i < i ∧ (ek l (linkAt l i)).kind = 1 ∧ (ek l (linkAt l i)).mt = (ek l i).mt ∧ (ek l (linkAt l i)).path = (ek l i).target := by
 obtain ⟨h1,h2⟩:=stepE_link0 ((entsFault_all h).2 i hi) hk
 by_cases hf:entFind (l.take i) (ek l i).target<i
 ·rw [metGet_yes hf] at h1 h2
  refine ⟨hf,h1,h2,?_⟩
  have h3:=entFind_lt (l:=l.take i) (s:=(ek l i).target) (by rw [List.length_take];omega)
  rw [ek_take hf] at h3
  exact h3
 ·rw [metGet_no hf] at h1
  cases h1
theorem growN_file {l : List Ent} {q i : Nat} (h : ¬ (ek l i).kind = 4) : growN l q i = (ek l i).nod (if linkedTo l i q = true then (i : Int) + 1 else 0) := if_neg h
theorem growN_link {l : List Ent} {q i : Nat} (h : (ek l i).kind = 4) : growN l q i = { (ek l (linkAt l i)).nod ((linkAt l i : Int) + 1) with path := (ek l i).path } := if_pos h
theorem growL_file {l : List Ent} {i : Nat} (hz : entsFault l = 0) (hi : i < l.length) (h : ¬ (ek l i).kind = 4) : growL l (i + 1) = growL l i ++ [(ek l i).nod 0] := by
 have hs:∀ j,linkedTo l j (i+1)=linkedTo l j i:=fun j=>by rw [linkedTo_succ,decide_eq_false h];simp
 have hn:linkedTo l i i=false:=by
  unfold linkedTo
  rw [List.any_eq_false]
  intro j hj
  have hj':=List.mem_range.1 hj
  by_cases hk:(ek l j).kind=4
  ·obtain ⟨h1,h2,h3,h4⟩:=link_facts hz (by omega) hk
   have hne:(ek l j).target≠(ek l i).path:=by
    rw [<-h4]
    exact ents_ne hz (by omega) hi
   simp [seq_f hne]
  ·simp [hk]
 unfold growL
 rw [List.range_succ,List.map_append]
 congr 1
 ·apply List.map_congr_left
  intro j _
  unfold growN
  rw [hs j]
 ·simp only [List.map_cons,List.map_nil]
  rw [growN_file h,hs i,hn]
  rfl
theorem growL_link {l : List Ent} {i : Nat} (hz : entsFault l = 0) (hi : i < l.length) (h : (ek l i).kind = 4) : growL l (i + 1) = (growL l i).set (linkAt l i) { growN l i (linkAt l i) with same := (linkAt l i : Int) + 1 } ++ [{ growN l i (linkAt l i) with same := (linkAt l i : Int) + 1,path := (ek l i).path }] := by
 obtain ⟨h1,h2,h3,h4⟩:=link_facts hz hi h
 have hk4:¬ (ek l (linkAt l i)).kind=4:=by rw [h2];decide
 have e1:growN l i (linkAt l i)=(ek l (linkAt l i)).nod (if linkedTo l (linkAt l i) i=true then (linkAt l i:Int)+1 else 0):=growN_file hk4
 have hs:∀ j,j<i->j≠linkAt l i->linkedTo l j (i+1)=linkedTo l j i:=by
  intro j hj hne
  rw [linkedTo_succ]
  have:(ek l i).target≠(ek l j).path:=by
   rw [<-h4]
   intro e
   exact hne (ents_inj hz (by omega) (by omega) e.symm)
  rw [seq_f this]
  simp
 have ht:linkedTo l (linkAt l i) (i+1)=true:=by
  rw [linkedTo_succ,seq_t h4.symm,decide_eq_true h,decide_eq_true h2]
  simp
 apply List.ext_getElem
 ·simp [growL]
 ·intro j hj1 hj2
  have hj:j<i+1:=by rw [growL_len] at hj1;exact hj1
  have eL:(growL l (i+1))[j]=growN l (i+1) j:=by simp [growL]
  rw [eL]
  by_cases hji:j<i
  ·rw [List.getElem_append_left (by rw [List.length_set,growL_len];exact hji),List.getElem_set]
   by_cases hjk:linkAt l i=j
   ·rw [if_pos hjk,<-hjk,e1,growN_file hk4,if_pos ht]
    rfl
   ·rw [if_neg hjk]
    have eR:(growL l i)[j]'(by rw [growL_len];exact hji)=growN l i j:=by simp [growL]
    rw [eR]
    unfold growN
    rw [hs j hji (fun e=>hjk e.symm)]
  ·obtain rfl:j=i:=by omega
   rw [List.getElem_append_right (by rw [List.length_set,growL_len];omega)]
   simp only [List.length_set,growL_len,Nat.sub_self,List.getElem_cons_zero]
   rw [growN_link h,e1]
   rfl
def treeGrown (l : List Ent) : List Nod := growL l l.length
noncomputable def grown (l : List Ent) : List Nod × Int := if ¬ entsFault l = 0 then ([],entsFault l) else (treeGrown l,0)
theorem grown_bad {l : List Ent} (h : ¬ entsFault l = 0) : grown l = ([],entsFault l) := by unfold grown; rw [if_pos h]
theorem grown_ok {l : List Ent} (h : entsFault l = 0) : grown l = (treeGrown l,0) := by unfold grown; rw [if_neg (by simpa using h)]
def PlaceIs (l : List Ent) (k : Nat) (m : List (ByteArray × Value)) : Prop := ∀ s,assoc s m = if entFind (l.take k) s < k then some (.int .i64 (entFind (l.take k) s)) else none
theorem PlaceIs.start (l : List Ent) : PlaceIs l 0 [] := fun s => rfl
theorem PlaceIs.put {l : List Ent} {k : Nat} {m : List (ByteArray × Value)} (h : PlaceIs l k m) (hk : k < l.length) (hz : entsFault l = 0) : PlaceIs l (k + 1) (assocPut (ek l k).path (.int .i64 k) m) := by
 intro s
 rw [assoc_put]
 by_cases e:s=(ek l k).path
 ·rw [if_pos e]
  have hf:entFind (l.take (k+1)) s=k:=by
   refine entFind_at (by rw [List.length_take];omega) (fun j hj=>?_) (by rw [ek_take (by omega)];exact e.symm)
   rw [ek_take (by omega),e]
   exact ents_ne hz hj hk
  rw [if_pos (by omega),hf]
 ·rw [if_neg e,h s]
  by_cases hf:entFind (l.take k) s<k
  ·rw [if_pos hf]
   have h1:=entFind_take hk hf
   rw [if_pos (by omega),h1]
  ·rw [if_neg hf]
   have hn:=entFind_not (by omega) hf
   have:entFind (l.take (k+1)) s=k+1:=entFind_none (by omega) (fun j hj=>by
    by_cases ej:j=k
    ·rw [ej];exact fun h=>e h.symm
    ·exact hn j (by omega))
   rw [if_neg (by omega)]
open Go.RowKit
theorem grownBy_trans {w w1 w2 : World} {row : Option Nat} (h1 : w.grownBy w1 row) (h2 : w1.grownBy w2 row) : w.grownBy w2 row := by
 obtain ⟨a1,a2,a3,a4,a5⟩:=h1
 obtain ⟨b1,b2,b3,b4,b5⟩:=h2
 exact ⟨b1.trans a1,b2.trans a2,b3.trans a3,Nat.le_trans a4 b4,fun k hk hne=>(b5 k (Nat.lt_of_lt_of_le hk a4) hne).trans (a5 k hk hne)⟩
theorem set_self (m : List Nod) (k : Nat) (hk : k < m.length) : m.set k (nk m k) = m := by
 rw [nk_eq hk,List.set_getElem_self]
theorem row_step {t : TypeId} {w0 w : World} {B g cap k j : Nat} {m : List Nod} {y : Nod} (h : w.ownsRow B t 12 (.slice (some ⟨g,0,none⟩) m.length cap) m.length ((m.set k y).flatMap Nod.cells) ∧ w0.grownBy w (some g)) (hk : k < m.length) (hj : j < 12) (y' : Nod) (u : Value) (hy : y'.cells = y.cells.set j u) :
 (w.setCell ⟨g,k*12+j,none⟩ u).ownsRow B t 12 (.slice (some ⟨g,0,none⟩) m.length cap) m.length ((m.set k y').flatMap Nod.cells)/\w0.grownBy (w.setCell ⟨g,k*12+j,none⟩ u) (some g):=by
 obtain ⟨h1,h2⟩:=h.1.stored (k*12+j) u
 rw [flat_set (m.set k y) k j y' u (by rw [List.length_set];exact hk) hj (by rw [nk_set hk,if_pos rfl];exact hy),List.set_set] at h1
 exact ⟨h1,grownBy_trans h.2 h2⟩
abbrev setNode (w : World) (g o : Nat) (x : Nod) : World := (((((((((((w.setCell ⟨g,o,none⟩ (.string x.path)).setCell ⟨g,o + 1,none⟩ (.int .i64 x.kind)).setCell ⟨g,o + 2,none⟩ (.int .i64 x.same)).setCell ⟨g,o + 3,none⟩ (.string x.target)).setCell ⟨g,o + 4,none⟩ (.int .i64 x.mt.mode)).setCell ⟨g,o + 5,none⟩ (.int .i64 x.mt.uid)).setCell ⟨g,o + 6,none⟩ (.int .i64 x.mt.gid)).setCell ⟨g,o + 7,none⟩ (.string x.mt.user)).setCell ⟨g,o + 8,none⟩ (.string x.mt.group)).setCell ⟨g,o + 9,none⟩ (.int .i64 x.mt.second)).setCell ⟨g,o + 10,none⟩ (.int .i64 x.mt.nano)).setCell ⟨g,o + 11,none⟩ (.slice x.da x.data.length x.dcap)
theorem OwnNods.putNode {t : TypeId} {w : World} {B g cap k n : Nat} {m : List Nod} {x : Nod} (h : OwnNods t w B (.slice (some ⟨g,0,none⟩) n cap) m) (hm : m.length = n) (hk : k < n) (hx : NodIn w (.slice (some ⟨g,0,none⟩) n cap) x) :
 OwnNods t (setNode w g (k*12) x) B (.slice (some ⟨g,0,none⟩) n cap) (m.set k x)/\w.grownBy (setNode w g (k*12) x) (some g):=by
 subst hm
 have h0:w.ownsRow B t 12 (.slice (some ⟨g,0,none⟩) m.length cap) m.length ((m.set k (nk m k)).flatMap Nod.cells)/\w.grownBy w (some g):=⟨by rw [set_self m k hk];exact h.1,World.grownBy.refl w _⟩
 generalize nk m k=y at h0
 obtain ⟨p,kd,sm,tg,mt,da,dc,dt⟩:=y
 obtain ⟨a1,a2,a3,a4,a5,a6,a7⟩:=mt
 have s0:=row_step h0 hk (j:=0) (by omega) ⟨x.path,kd,sm,tg,⟨a1,a2,a3,a4,a5,a6,a7⟩,da,dc,dt⟩ (.string x.path) rfl
 have s1:=row_step s0 hk (j:=1) (by omega) ⟨x.path,x.kind,sm,tg,⟨a1,a2,a3,a4,a5,a6,a7⟩,da,dc,dt⟩ (.int .i64 x.kind) rfl
 have s2:=row_step s1 hk (j:=2) (by omega) ⟨x.path,x.kind,x.same,tg,⟨a1,a2,a3,a4,a5,a6,a7⟩,da,dc,dt⟩ (.int .i64 x.same) rfl
 have s3:=row_step s2 hk (j:=3) (by omega) ⟨x.path,x.kind,x.same,x.target,⟨a1,a2,a3,a4,a5,a6,a7⟩,da,dc,dt⟩ (.string x.target) rfl
 have s4:=row_step s3 hk (j:=4) (by omega) ⟨x.path,x.kind,x.same,x.target,⟨x.mt.mode,a2,a3,a4,a5,a6,a7⟩,da,dc,dt⟩ (.int .i64 x.mt.mode) rfl
 have s5:=row_step s4 hk (j:=5) (by omega) ⟨x.path,x.kind,x.same,x.target,⟨x.mt.mode,x.mt.uid,a3,a4,a5,a6,a7⟩,da,dc,dt⟩ (.int .i64 x.mt.uid) rfl
 have s6:=row_step s5 hk (j:=6) (by omega) ⟨x.path,x.kind,x.same,x.target,⟨x.mt.mode,x.mt.uid,x.mt.gid,a4,a5,a6,a7⟩,da,dc,dt⟩ (.int .i64 x.mt.gid) rfl
 have s7:=row_step s6 hk (j:=7) (by omega) ⟨x.path,x.kind,x.same,x.target,⟨x.mt.mode,x.mt.uid,x.mt.gid,x.mt.user,a5,a6,a7⟩,da,dc,dt⟩ (.string x.mt.user) rfl
 have s8:=row_step s7 hk (j:=8) (by omega) ⟨x.path,x.kind,x.same,x.target,⟨x.mt.mode,x.mt.uid,x.mt.gid,x.mt.user,x.mt.group,a6,a7⟩,da,dc,dt⟩ (.string x.mt.group) rfl
 have s9:=row_step s8 hk (j:=9) (by omega) ⟨x.path,x.kind,x.same,x.target,⟨x.mt.mode,x.mt.uid,x.mt.gid,x.mt.user,x.mt.group,x.mt.second,a7⟩,da,dc,dt⟩ (.int .i64 x.mt.second) rfl
 have s10:=row_step s9 hk (j:=10) (by omega) ⟨x.path,x.kind,x.same,x.target,⟨x.mt.mode,x.mt.uid,x.mt.gid,x.mt.user,x.mt.group,x.mt.second,x.mt.nano⟩,da,dc,dt⟩ (.int .i64 x.mt.nano) rfl
 have s11:=row_step s10 hk (j:=11) (by omega) x (.slice x.da x.data.length x.dcap) rfl
 refine ⟨⟨by rw [List.length_set];exact s11.1,fun z hz=>?_⟩,s11.2⟩
 have hin:NodIn w (.slice (some ⟨g,0,none⟩) m.length cap) z:=by
  rcases List.mem_or_eq_of_mem_set hz with a|a
  ·exact h.2 z a
  ·rw [a];exact hx
 exact ⟨hin.1.grown s11.2 hin.2,hin.2⟩
theorem OwnNods.nodAtN {t : TypeId} {w : World} {B g cap n k : Nat} {m : List Nod} (h : OwnNods t w B (.slice (some ⟨g,0,none⟩) n cap) m) (hm : m.length = n) (hk : k < n) : NodAt w g (k * 12) (nk m k) := by
 subst hm
 exact h.nodAt hk
theorem OwnNods.putSame {t : TypeId} {w : World} {B g cap n k : Nat} {m : List Nod} (h : OwnNods t w B (.slice (some ⟨g,0,none⟩) n cap) m) (hm : m.length = n) (hk : k < n) (s : Int) (hs : i64 s) :
 OwnNods t (w.setCell ⟨g,k*12+2,none⟩ (.int .i64 s)) B (.slice (some ⟨g,0,none⟩) n cap) (m.set k { nk m k with same:=s })/\w.cell? ⟨g,k*12+2,none⟩=some (.int .i64 (nk m k).same)/\w.frozen? ⟨g,k*12+2,none⟩=false/\B<=g:=by
 subst hm
 have hx:=h.nodIn hk
 obtain ⟨_,_,h2,_⟩:=h.nodAt hk
 exact ⟨(h.put (k:=k) (j:=2) hk (by omega) { nk m k with same:=s } (.int .i64 s) rfl ⟨⟨hx.1.path,hx.1.kind,hs,hx.1.target,hx.1.mt,hx.1.data⟩,hx.2⟩).1,h2,h.1.frozenAt _,(World.ownsRow.lt h.1 g rfl).1⟩
open Go.RowKit
theorem Ent.nod_ok {w : World} {x : Ent} (h : x.Ok maxLen w) {s : Int} (hs : i64 s) : (x.nod s).Ok maxLen w := ⟨h.path,h.kind,hs,h.target,h.mt,h.data⟩
theorem growN_ok {w : World} {l : List Ent} (hz : entsFault l = 0) (hok : ∀ i,i < l.length → (ek l i).Ok maxLen w) {q i : Nat} (hi : i < l.length) : (growN l q i).Ok maxLen w := by
 have hfew:=(entsFault_all hz).1
 by_cases hk:(ek l i).kind=4
 ·obtain ⟨h1,_⟩:=link_facts hz hi hk
  rw [growN_link hk]
  have h2:=Ent.nod_ok (hok _ (show linkAt l i<l.length by omega)) (s:=(linkAt l i:Int)+1) (by unfold i64;omega)
  exact ⟨(hok i hi).path,h2.kind,h2.same,h2.target,h2.mt,h2.data⟩
 ·rw [growN_file hk]
  exact Ent.nod_ok (hok i hi) (by unfold i64;split<;>omega)
theorem growL_ok {w : World} {l : List Ent} (hz : entsFault l = 0) (hok : ∀ i,i < l.length → (ek l i).Ok maxLen w) {q : Nat} (hq : q ≤ l.length) : ∀ x,x ∈ growL l q → x.Ok maxLen w := by
 intro x hx
 obtain ⟨i,hi,rfl⟩:=List.mem_map.1 hx
 exact growN_ok hz hok (by have:=List.mem_range.1 hi;omega)
theorem own_kept {t : TypeId} {w0 W W' : World} {B : Nat} {v : Value} {l : List Nod} {row : Option Nat} (h : OwnNods t W B v l) (hg : W.grownBy W' row) (hne : v.ownBlock = none ∨ v.ownBlock ≠ row) (hx : ∀ x,x ∈ l → x.Ok maxLen w0) (hb : Below w0.heap.size w0 W') : OwnNods t W' B v l :=
 ⟨World.ownsRow.kept h.1 hg hne,fun x hxl=>⟨(hx x hxl).below hb,(h.2 x hxl).2⟩⟩
theorem box_own {t : TypeId} {w0 w : World} {x : Nod} (hx : x.Ok maxLen w0) (hb : Below w0.heap.size w0 w) : OwnNods t (w.alloc (.cells #[.string x.path,.int .i64 x.kind,.int .i64 x.same,.string x.target,.int .i64 x.mt.mode,.int .i64 x.mt.uid,.int .i64 x.mt.gid,.string x.mt.user,.string x.mt.group,.int .i64 x.mt.second,.int .i64 x.mt.nano,.slice x.da x.data.length x.dcap] t)) w.heap.size (.slice (some ⟨w.heap.size,0,none⟩) 1 1) [x] := by
 refine ⟨⟨rfl,.inr ⟨w.heap.size,1,_,rfl,Nat.le_refl _,heap_alloc_new w _,Nat.le_refl _,by unfold maxLen;omega,rfl,rfl⟩⟩,fun y hy=>?_⟩
 rw [List.mem_singleton.1 hy]
 refine ⟨(hx.below hb).below ((Below.refl _ _).alloc (Nat.le_refl _) _),fun a hp ha e=>?_⟩
 have h1:=hx.lt a hp ha
 have h2:=hb.size
 simp [Value.ownBlock] at e
 omega
theorem EntAt.grown {w w' : World} {b o : Nat} {x : Ent} {row : Option Nat} (h : EntAt w b o x) (hg : w.grownBy w' row) (hne : some b ≠ row) : EntAt w' b o x := by
 obtain ⟨h0,h1,h2,h3,h4,h5,h6,h7,h8,h9,h10⟩:=h
 exact ⟨hg.cell h0 hne,hg.cell h1 hne,hg.cell h2 hne,hg.cell h3 hne,hg.cell h4 hne,hg.cell h5 hne,hg.cell h6 hne,hg.cell h7 hne,hg.cell h8 hne,hg.cell h9 hne,hg.cell h10 hne⟩
theorem MapIs.grown {κ : Type} [DecidableEq κ] {mk : κ → Value} {w w' : World} {b : Nat} {l : List (κ × Value)} {row : Option Nat} (h : MapIs mk w b l) (hg : w.grownBy w' row) (hne : some b ≠ row) : MapIs mk w' b l := h.of_heap (hg.block b h.lt hne)
theorem growL_dat {l : List Ent} (hz : entsFault l = 0) : ∀ i,i < (treeGrown l).length → (nk (treeGrown l) i).data.length ≤ 140737488355328 := by
 intro i hi
 unfold treeGrown at hi ⊢
 rw [growL_len] at hi
 rw [growL_at l hi]
 have hd:∀ j,j<l.length->(ek l j).data.length<=2000:=fun j hj=>(entFault_size (stepE_zero ((entsFault_all hz).2 j hj)).1).1
 by_cases hk:(ek l i).kind=4
 ·obtain ⟨h1,_⟩:=link_facts hz hi hk
  rw [growN_link hk]
  exact Nat.le_trans (hd _ (show linkAt l i<l.length by omega)) (by omega)
 ·rw [growN_file hk]
  exact Nat.le_trans (hd i hi) (by omega)
abbrev entBox (t : TypeId) (x : Ent) : Obj := .cells #[.string x.path,.int .i64 x.kind,.string x.target,.int .i64 x.mt.mode,.int .i64 x.mt.uid,.int .i64 x.mt.gid,.string x.mt.user,.string x.mt.group,.int .i64 x.mt.second,.int .i64 x.mt.nano,.slice x.da x.data.length x.dcap] t
abbrev nodBox (t : TypeId) (x : Nod) : Obj := .cells #[.string x.path,.int .i64 x.kind,.int .i64 x.same,.string x.target,.int .i64 x.mt.mode,.int .i64 x.mt.uid,.int .i64 x.mt.gid,.string x.mt.user,.string x.mt.group,.int .i64 x.mt.second,.int .i64 x.mt.nano,.slice x.da x.data.length x.dcap] t
structure TwoAt (te tn : TypeId) (w0 wr W : World) (mb b1 : Nat) (v : Value) (m : List (ByteArray × Value)) (x : Ent) (c : List Nod) : Prop where
 own:OwnNods tn W (mb+1) v c
 box:OwnNods tn W (b1+1) (.slice (some ⟨b1+1,0,none⟩) 1 1) [x.nod 0]
 map:MapIs (fun s:ByteArray=>Value.string s) W mb m
 below:Below w0.heap.size w0 W
 ent:EntAt W b1 0 x
 apart:∀ j,v.ownBlock=some j->j<b1
 mblt:mb<b1
theorem TwoAt.made {te tn : TypeId} {w0 wr : World} {mb : Nat} {v : Value} {m : List (ByteArray × Value)} {x : Ent} {c : List Nod} (hx : x.Ok maxLen w0) (hown : OwnNods tn wr (mb + 1) v c) (hb : Below w0.heap.size w0 wr) (hm : MapIs (fun s : ByteArray => Value.string s) wr mb m) :
 TwoAt te tn w0 wr ((wr.alloc (entBox te x)).alloc (nodBox tn (x.nod 0))) mb wr.heap.size v m x c:=by
 have h1:Below wr.heap.size wr (wr.alloc (entBox te x)):=(Below.refl _ _).alloc (Nat.le_refl _) _
 have hs:(wr.alloc (entBox te x)).heap.size=wr.heap.size+1:=by simp
 have h2:Below wr.heap.size wr ((wr.alloc (entBox te x)).alloc (nodBox tn (x.nod 0))):=h1.alloc (by omega) _
 refine ⟨hown.below h2,?_,hm.below h2 hm.lt,hb.trans (h2.mono hb.size),(entAt_box wr x te).below ((Below.refl _ _).alloc (Nat.le_refl _) _),fun j hj=>(World.ownsRow.lt hown.1 j hj).2,hm.lt⟩
 have:=box_own (t:=tn) (w0:=w0) (w:=wr.alloc (entBox te x)) (x:=x.nod 0) (Ent.nod_ok hx (by unfold i64;omega)) (hb.trans (h1.mono hb.size))
 rw [hs] at this
 exact this
structure GrowAt (t : TypeId) (w0 wx : World) (l : List Ent) (k mb b1 b2 : Nat) (v : Value) (m : List (ByteArray × Value)) (z : Nod) (c : List Nod) : Prop where
 all:growL l (k+1)=c++[z]
 len:c.length=k
 own:OwnNods t wx (mb+1) v c
 box:OwnNods t wx b2 (.slice (some ⟨b2,0,none⟩) 1 1) [z]
 inn:NodIn wx v z
 map:MapIs (fun s:ByteArray=>Value.string s) wx mb m
 below:Below w0.heap.size w0 wx
 ent:EntAt wx b1 0 (ek l k)
 apart:∀ j,v.ownBlock=some j->j<b1
theorem nodIn_ok {t : TypeId} {w0 W : World} {v : Value} {c : List Nod} {x : Nod} {B : Nat} (hx : x.Ok maxLen w0) (hb : Below w0.heap.size w0 W) (hown : OwnNods t W B v c) (hB : w0.heap.size ≤ B) : NodIn W v x :=
 nodIn_arg hx hb (hown.mono hB)
structure LinkSt (tn : TypeId) (w0 W : World) (l : List Ent) (k q mb b1 g cap : Nat) (m : List (ByteArray × Value)) (x : Ent) (y z : Nod) (c : List Nod) : Prop where
 all:growL l (k+1)=c++[{ y with path:=x.path }]
 len:c.length=k
 own:OwnNods tn W (mb+1) (.slice (some ⟨g,0,none⟩) k cap) c
 aty:nk c q=y
 yok:y.Ok maxLen w0
 zok:z.Ok maxLen w0
 cok:∀ n,n∈c->n.Ok maxLen w0
 box:OwnNods tn W (b1+1) (.slice (some ⟨b1+1,0,none⟩) 1 1) [z]
 map:MapIs (fun s:ByteArray=>Value.string s) W mb m
 below:Below w0.heap.size w0 W
 ent:EntAt W b1 0 x
 gmb:mb<g
 gb1:g<b1
theorem LinkSt.begin {te tn : TypeId} {w0 wr W : World} {l : List Ent} {k q mb b1 g cap : Nat} {m : List (ByteArray × Value)} {x : Ent} {N : Nod} (h : TwoAt te tn w0 wr W mb b1 (.slice (some ⟨g,0,none⟩) k cap) m x (growL l k)) (hw : w0.heap.size ≤ mb) (hx : x.Ok maxLen w0)
 (hq:q<k) (hN:nk (growL l k) q=N) (hall:growL l (k+1)=(growL l k).set q { N with same:=(q:Int)+1 }++[{ N with same:=(q:Int)+1,path:=x.path }]) (hok:∀ n,n∈growL l (k+1)->n.Ok maxLen w0) (hqk:(q:Int)+1<=1000) :
 LinkSt tn w0 (W.setCell ⟨g,q*12+2,none⟩ (.int .i64 ((q:Int)+1))) l k q mb b1 g cap m x { N with same:=(q:Int)+1 } (x.nod 0) ((growL l k).set q { N with same:=(q:Int)+1 }):=by
 subst hN
 have hs:i64 ((q:Int)+1):=by unfold i64;omega
 obtain ⟨h1,h2,h3,h4⟩:=h.own.putSame (growL_len l k) hq _ hs
 have hg:W.grownBy (W.setCell ⟨g,q*12+2,none⟩ (.int .i64 ((q:Int)+1))) (some g):=grownBy_setCell _ _ _ _
 have hap:=h.apart g rfl
 have hb:Below w0.heap.size w0 (W.setCell ⟨g,q*12+2,none⟩ (.int .i64 ((q:Int)+1))):=h.below.setCell (p:=⟨g,q*12+2,none⟩) (by show w0.heap.size<=g;omega) _
 have hl:(growL l k).length=k:=growL_len l k
 refine ⟨hall,by rw [List.length_set,hl],h1,by rw [nk_set (by omega),if_pos rfl],hok _ (by rw [hall];exact List.mem_append_left _ (List.mem_set (by omega) _)),Ent.nod_ok hx (by unfold i64;omega),fun n hn=>hok n (by rw [hall];exact List.mem_append_left _ hn),
  own_kept h.box hg (.inr (by simp [Value.ownBlock];omega)) (fun n hn=>by rw [List.mem_singleton.1 hn];exact Ent.nod_ok hx (by unfold i64;omega)) hb,h.map.grown hg (by simp;omega),hb,h.ent.grown hg (by simp;omega),by omega,hap⟩
abbrev setNode0 (w : World) (g : Nat) (x : Nod) : World := (((((((((((w.setCell ⟨g,0,none⟩ (.string x.path)).setCell ⟨g,1,none⟩ (.int .i64 x.kind)).setCell ⟨g,2,none⟩ (.int .i64 x.same)).setCell ⟨g,3,none⟩ (.string x.target)).setCell ⟨g,4,none⟩ (.int .i64 x.mt.mode)).setCell ⟨g,5,none⟩ (.int .i64 x.mt.uid)).setCell ⟨g,6,none⟩ (.int .i64 x.mt.gid)).setCell ⟨g,7,none⟩ (.string x.mt.user)).setCell ⟨g,8,none⟩ (.string x.mt.group)).setCell ⟨g,9,none⟩ (.int .i64 x.mt.second)).setCell ⟨g,10,none⟩ (.int .i64 x.mt.nano)).setCell ⟨g,11,none⟩ (.slice x.da x.data.length x.dcap)
theorem LinkSt.copied {tn : TypeId} {w0 W : World} {l : List Ent} {k q mb b1 g cap : Nat} {m : List (ByteArray × Value)} {x : Ent} {y z : Nod} {c : List Nod} (h : LinkSt tn w0 W l k q mb b1 g cap m x y z c) (hw : w0.heap.size ≤ mb) :
 LinkSt tn w0 (setNode0 W (b1+1) y) l k q mb b1 g cap m x y y c:=by
 have h1:=h.gmb
 have h2:=h.gb1
 have hp:=h.box.putNode (k:=0) (n:=1) rfl (by omega) (nodIn_ok h.yok h.below h.box (by omega))
 simp only [Nat.zero_mul,Nat.zero_add,List.set_cons_zero] at hp
 obtain ⟨hbx,hg⟩:=hp
 have hb:Below w0.heap.size w0 (setNode0 W (b1+1) y):=h.below.grown hg (h.below.size) (fun j hj=>by cases hj;omega)
 exact ⟨h.all,h.len,own_kept h.own hg (.inr (by simp [Value.ownBlock];omega)) h.cok hb,h.aty,h.yok,h.yok,h.cok,hbx,h.map.grown hg (by simp;omega),hb,h.ent.grown hg (by simp),h.gmb,h.gb1⟩
theorem LinkSt.named {tn : TypeId} {w0 W : World} {l : List Ent} {k q mb b1 g cap : Nat} {m : List (ByteArray × Value)} {x : Ent} {y : Nod} {c : List Nod} (h : LinkSt tn w0 W l k q mb b1 g cap m x y y c) (hw : w0.heap.size ≤ mb) (hx : ek l k = x) (hxo : x.Ok maxLen w0) :
 GrowAt tn w0 (W.setCell ⟨b1+1,0,none⟩ (.string x.path)) l k mb b1 (b1+1) (.slice (some ⟨g,0,none⟩) k cap) m { y with path:=x.path } c:=by
 have h1:=h.gmb
 have h2:=h.gb1
 have hg:W.grownBy (W.setCell ⟨b1+1,0,none⟩ (.string x.path)) (some (b1+1)):=grownBy_setCell _ _ _ _
 have hb:Below w0.heap.size w0 (W.setCell ⟨b1+1,0,none⟩ (.string x.path)):=h.below.grown hg h.below.size (fun j hj=>by cases hj;omega)
 have hyo:({ y with path:=x.path }:Nod).Ok maxLen w0:=⟨hxo.path,h.yok.kind,h.yok.same,h.yok.target,h.yok.mt,h.yok.data⟩
 have hbx:=OwnNods.put (l:=[y]) (k:=0) (j:=0) h.box (by simp) (by omega) { y with path:=x.path } (.string x.path) rfl (nodIn_ok hyo h.below h.box (by omega))
 have hov:=own_kept h.own hg (.inr (by simp [Value.ownBlock];omega)) h.cok hb
 exact ⟨h.all,h.len,hov,hbx.1,nodIn_ok hyo hb hov (by omega),h.map.grown hg (by simp;omega),hb,by rw [hx];exact h.ent.grown hg (by simp),fun j hj=>by simp [Value.ownBlock] at hj;omega⟩
end Go.Creel
namespace Go.Proofs.YtaffgndickdbiaaGreatDoor
open Go.Creel Go.RowKit
theorem place_look {l : List Ent} {k mb : Nat} {m : List (ByteArray × Value)} {w : World} (hm : MapIs (fun s : ByteArray => Value.string s) w mb m) (h : PlaceIs l k m) (s : ByteArray) (hs : entFind (l.take k) s < k) :
 (Instr.lookup 156 (.map (some mb)) (.string s) false).run Tryz.prog w = .ok (.int .i64 (entFind (l.take k) s)) w :=
 hm.look_some keyOn_str (t:=156) (k:=9) (e:=3) Tryz.underlying156 Tryz.underlying9 (by rw [h s,if_pos hs]) false
open Go.Creel Go.RowKit
set_option maxRecDepth 100000 in
set_option maxHeartbeats 8000000 in
theorem GrowL_at (b off cap : Nat) (l : List Ent) (w : World) (hM : MaxOk w) (hpos : 0 < l.length) (hle : l.length ≤ cap) (hm : cap ≤ maxLen) (hc : EntsAt w b off l) (hok : ∀ i,i < l.length → (ek l i).Ok maxLen w) (h : SliceC maxLen 11 (EntC maxLen) w [.slice (some ⟨b,off,none⟩) l.length cap] l) :
 Calls Tryz.prog 64 #[.slice (some ⟨b,off,none⟩) l.length cap] w (RetTE 99 w (grown l)):=by
 obtain ⟨i0,hi,hz0,hz1,hz2⟩:=info_parts info_node
 have HI:=Lib.hid (And.intro hi (And.intro hz0 (And.intro hz1 hz2)))
 have H:=Lib.hid h
 have HC:=Lib.hid hc
 have HK:=Lib.hid hok
 have HM:=Lib.hid hM
 unfold maxLen at hm
 clear h hc hok hM hi hz0 hz1 hz2
 by_cases hE:entsFault l=0
 ·have HF:=Lib.hid (grown_ok hE)
  have hfew:=(entsFault_all hE).1
  have HZ:=Lib.hid hE
  have HD:=Lib.hid (growL_dat hE)
  have HGO:=Lib.hid (fun (q:Nat) (hq:q<=l.length)=>growL_ok (w:=w) hE HK.out hq)
  have hmm := @run_makeMap Tryz.prog
  clear hE
  go_enter Tryz.func64,Tryz.ntmps64
  go_wp2_with fail
  refine (EntsCheck_any _ l _ HM.out H.out).mono ?_
  rintro e w1 ⟨rfl,hb⟩
  rw [HZ.out]
  have HB1:=Lib.hid hb
  have HMS:=Lib.hid (MapIs.made (fun s:ByteArray=>Value.string s) w1)
  have HMB:=Lib.hid (hb.alloc hb.size (.map #[] 0))
  have HWM:=Lib.hid hb.size
  clear hb
  go_wp2
  clear hmm
  generalize hmb:w1.heap.size=mb at HMS
  have HMBE:=Lib.hid hmb
  have hwm:w.heap.size<=mb:=by rw [<-hmb];exact HWM.out
  clear hmb HWM
  go_loopw [5,7,8,9,10,19] (fun v _ _ _ _ i wr=>∃ (k:Nat) (m:List (ByteArray×Value)),k<=l.length/\i = .int .i64 k/\Hid (OwnNods 99 wr (mb+1) v (growL l k))/\Hid (Below w.heap.size w wr)/\Hid (MapIs (fun s:ByteArray=>Value.string s) wr mb m)/\Hid (PlaceIs l k m)) (fun _ _ _ _ _ i _=>l.length-(intOf i).toNat)
  case atStart=>exact ⟨0,[],by omega,rfl,Lib.hid (OwnNods.nil _ _ _),HMB,HMS,Lib.hid (PlaceIs.start l)⟩
  case round =>
   obtain ⟨k,m,hk,rfl,HO,HB,HMI,HPL⟩:=hrel
   by_cases hlt:k<l.length
   ·obtain ⟨h0,h1,h2,h3,h4,h5,h6,h7,h8,h9,h10⟩:=(HC.out.below HB.out) k hlt
    have HX:=Lib.hid (HK.out k hlt)
    have HXN:=Lib.hid (Ent.nod_ok HX.out (s:=0) (by unfold i64;omega))
    have HPP:=Lib.hid (fun (W:World)=>PlaceIs.put (m:=m) HPL.out hlt HZ.out)
    have HFI:=Lib.hid (fun h=>growL_file HZ.out hlt h)
    have HLI:=Lib.hid (fun h=>growL_link HZ.out hlt h)
    have HLF:=Lib.hid (fun h=>link_facts HZ.out hlt h)
    have HLE:Hid (linkAt l k=entFind (l.take k) (ek l k).target):=Lib.hid rfl
    have HKC:=Lib.hid (HGO.out (k+1) (by omega))
    have hkk:=(HX.out.kind)
    generalize hx:ek l k=x at *
    have HEX:=Lib.hid hx
    clear hx
    have HTW:Hid (TwoAt 26 99 w wr ((wr.alloc (.cells #[.string x.path,.int .i64 x.kind,.string x.target,.int .i64 x.mt.mode,.int .i64 x.mt.uid,.int .i64 x.mt.gid,.string x.mt.user,.string x.mt.group,.int .i64 x.mt.second,.int .i64 x.mt.nano,.slice x.da x.data.length x.dcap] 26)).alloc (.cells #[.string x.path,.int .i64 x.kind,.int .i64 0,.string x.target,.int .i64 x.mt.mode,.int .i64 x.mt.uid,.int .i64 x.mt.gid,.string x.mt.user,.string x.mt.group,.int .i64 x.mt.second,.int .i64 x.mt.nano,.slice x.da x.data.length x.dcap] 99)) mb wr.heap.size u5 m x (growL l k)):=Lib.hid (TwoAt.made (te:=26) HX.out HO.out HB.out HMI.out)
    go_upto_region 10 with fail
    generalize World.alloc (World.alloc wr _) _=w2 at *
    generalize wr.heap.size=b1 at *
    have hbl:=HTW.out.mblt
    have HKL:=Lib.hid (show k<=40 by omega)
    obtain ⟨e0,e1,e2,e3,e4,e5,e6,e7,e8,e9,e10⟩:=HTW.out.ent.zero
    go_upto_if 37 with fail
    generalize hkb:(x.kind==4)=kb at *
    have HKB:=Lib.hid hkb
    clear hkb
    go_cut [10] from 38 to 54 (fun _ wx=>∃ (z:Nod) (c:List Nod),Hid (GrowAt 99 w wx l k mb b1 (b1+1) u5 m z c))
    case first =>
     cases kb with
     | true =>
       have hk4:x.kind=4:=by have:=HKB.out;rwa [beq_iff_eq] at this
       obtain ⟨hq1,_⟩:=HLF.out hk4
       have hall:=HLI.out hk4
       rw [HLE.out] at hq1 hall
       have hform:=HTW.out.own.form
       rcases hform with ⟨_,e0'⟩|⟨g,cap',hv,hgB,_,hgc,hgm⟩
       ·have:=congrArg List.length e0'
        rw [growL_len] at this
        simp at this
        omega
       ·rw [growL_len] at hgc hv
        subst hv
        have hlook:=place_look HTW.out.map HPL.out x.target hq1
        have hN:=growL_at l hq1
        generalize entFind (l.take k) x.target=q at *
        have HLS:=Lib.hid (LinkSt.begin (N:=growN l k q) HTW.out hwm HX.out hq1 hN hall HKC.out (by have:=HKL.out;omega))
        have hps:=HTW.out.own.putSame (growL_len l k) hq1 ((q:Int)+1) (by unfold i64;have:=HKL.out;omega)
        have hcq:=hps.2.1
        have hfq:=hps.2.2.1
        clear hk4 hall hN hps
        generalize growN l k q=N at *
        go_upto_region 12 with fail
        go_cut [] from 42 to 47 (fun wx=>Hid (LinkSt 99 w wx l k q mb b1 g cap' m x { N with same:=(q:Int)+1 } (x.nod 0) ((growL l k).set q { N with same:=(q:Int)+1 })))
        case first =>
         go_wp2
         go_meet
         exact HLS
        case rest =>
         clear HLS hcq hfq e0 e1 e2 e3 e4 e5 e6 e7 e8 e9 e10
         generalize ({ N with same:=(q:Int)+1 }:Nod)=y at *
         generalize (growL l k).set q y=c at *
         have HLS:=hcut
         clear hcut
         have hna:=HLS.out.own.nodAtN HLS.out.len hq1
         rw [HLS.out.aty] at hna
         obtain ⟨c0,c1,c2,c3,c4,c5,c6,c7,c8,c9,c10,c11⟩:=hna
         have hnb:=HLS.out.box.nodAtN rfl (k:=0) (by omega)
         obtain ⟨d0,d1,d2,d3,d4,d5,d6,d7,d8,d9,d10,d11⟩:=hnb
         have hfz:=fun j=>HLS.out.box.1.frozenAt j
         simp only [Nat.zero_mul,Nat.zero_add] at d0 d1 d2 d3 d4 d5 d6 d7 d8 d9 d10 d11
         have f0:=hfz 0
         have f1:=hfz 1
         have f2:=hfz 2
         have f3:=hfz 3
         have f4:=hfz 4
         have f5:=hfz 5
         have f6:=hfz 6
         have f7:=hfz 7
         have f8:=hfz 8
         have f9:=hfz 9
         have f10:=hfz 10
         have f11:=hfz 11
         clear hfz
         have HLC:=Lib.hid (HLS.out.copied hwm)
         go_upto_region 13 with fail
         go_cut [] from 48 to 51 (fun wx=>Hid (LinkSt 99 w wx l k q mb b1 g cap' m x y y c))
         case first =>
          go_wp2
          go_meet
          exact HLC
         case rest =>
          clear HLS HLC c0 c1 c2 c3 c4 c5 c6 c7 c8 c9 c10 c11 d0 d1 d2 d3 d4 d5 d6 d7 d8 d9 d10 d11 f0 f1 f2 f3 f4 f5 f6 f7 f8 f9 f10 f11
          have HLS:=hcut
          clear hcut
          obtain ⟨e0,e1,e2,e3,e4,e5,e6,e7,e8,e9,e10⟩:=HLS.out.ent.zero
          have hnb:=HLS.out.box.nodAtN rfl (k:=0) (by omega)
          obtain ⟨d0,d1,d2,d3,d4,d5,d6,d7,d8,d9,d10,d11⟩:=hnb
          simp only [Nat.zero_mul,Nat.zero_add] at d0
          have f0:=HLS.out.box.1.frozenAt 0
          have HGA:=Lib.hid (HLS.out.named hwm HEX.out HX.out)
          clear d1 d2 d3 d4 d5 d6 d7 d8 d9 d10 d11
          go_wp2
          go_meet
          exact ⟨_,c,HGA⟩
     | false =>
       have hk4:¬ x.kind=4:=by have:=HKB.out;rwa [beq_eq_false_iff_ne] at this
       have hall:=HFI.out hk4
       clear hk4
       go_wp2
       go_meet
       exact ⟨x.nod 0,growL l k,Lib.hid ⟨hall,growL_len l k,HTW.out.own,HTW.out.box,nodIn_ok HXN.out HTW.out.below HTW.out.own (by omega),HTW.out.map,HTW.out.below,by rw [HEX.out];exact HTW.out.ent,HTW.out.apart⟩⟩
    case rest =>
     obtain ⟨z,c,HG⟩:=hcut
     clear e0 e1 e2 e3 e4 e5 e6 e7 e8 e9 e10 HTW HLI HFI HLF HLE
     obtain ⟨w6,hrun,hm6,hg6⟩:=HG.out.map.put keyOn_str (t:=156) (k:=9) (e:=3) (P:=Tryz.prog) Tryz.underlying156 Tryz.underlying9 x.path (.int .i64 k)
     have he:=HG.out.ent
     rw [HEX.out] at he
     obtain ⟨e0,e1,e2,e3,e4,e5,e6,e7,e8,e9,e10⟩:=he.zero
     have HOK:=Lib.hid (show ∀ n,n∈c++[z]->n.Ok maxLen w by rw [<-HG.out.all];exact HKC.out)
     have HB6:=Lib.hid (HG.out.below.grown hg6 HG.out.below.size (fun j hj=>by cases hj;exact hwm))
     have hvm:u5.ownBlock≠some mb:=fun e=>by have:=(World.ownsRow.lt HG.out.own.1 mb e).1;omega
     have HVM:=Lib.hid hvm
     have HO6:=Lib.hid (own_kept HG.out.own hg6 (.inr hvm) (fun n hn=>HOK.out n (List.mem_append_left _ hn)) HB6.out)
     have HN6:=Lib.hid (own_kept HG.out.box hg6 (.inr (by simp [Value.ownBlock];omega)) (fun n hn=>HOK.out n (List.mem_append_right _ hn)) HB6.out)
     have HZO:=Lib.hid (HOK.out z (by simp))
     have HM6:=Lib.hid hm6
     have HBA:=Lib.hid ((Below.refl w6.heap.size w6).alloc (Nat.le_refl _) (nodBox 99 z))
     have HO7:=Lib.hid (HO6.out.below HBA.out)
     have HB7:=Lib.hid (HB6.out.trans (HBA.out.mono HB6.out.size))
     have HI7:=Lib.hid (nodIn_ok HZO.out HB7.out HO7.out (Nat.le_succ_of_le hwm))
     have HM7:=Lib.hid (HM6.out.below HBA.out HM6.out.lt)
     have HMS7:=Lib.hid (show mb+1<=(w6.alloc (nodBox 99 z)).heap.size from HM7.out.lt)
     have hcl:=HG.out.len
     have HAL:=Lib.hid HG.out.all
     have hnb:=HN6.out.nodAtN rfl (k:=0) (by omega)
     obtain ⟨d0,d1,d2,d3,d4,d5,d6,d7,d8,d9,d10,d11⟩:=hnb
     simp only [Nat.zero_mul,Nat.zero_add] at d0 d1 d2 d3 d4 d5 d6 d7 d8 d9 d10 d11
     rw [show nk [z] 0=z from rfl] at d0 d1 d2 d3 d4 d5 d6 d7 d8 d9 d10 d11
     clear hm6 hg6 hvm he HG
     go_wp2_with (at_builtin;refine wpList_app _ rfl (.tmp 59) (.tmp 61) 51 51 rfl _ _ rfl rfl (fun ty=>app_src _ 51 51 ty (mb+1) 99 i0 _ 12 144 Tryz.underlying51 HI.out.1 HI.out.2.1 HI.out.2.2.1 HI.out.2.2.2 rfl (by decide) _ _ c.length 1 _ _ HO7.out.1 (src_nod_at w6 rfl _ _ _ Tryz.underlying51 z) (by unfold maxLen;omega) (by omega) HMS7.out) ?_;intro v2 w8 ho2 hg2 hv2;have HZZ:=Lib.hid (And.intro ho2 (And.intro hg2 hv2));clear ho2 hg2 hv2)
     have HO8:=Lib.hid (HO7.out.app (m:=[z]) (fun y hy=>by rw [List.mem_singleton.1 hy];exact HI7.out) HZZ.out.1 HZZ.out.2.1 HZZ.out.2.2.2)
     have HB8:=Lib.hid (HB7.out.grown HZZ.out.2.1 HB7.out.size (fun j hj=>by have:=(World.ownsRow.lt HO7.out.1 j hj).1;omega))
     have HM8:=Lib.hid (HM7.out.grown HZZ.out.2.1 (fun e=>HVM.out e.symm))
     have HP8:=Lib.hid (HPP.out w8)
     go_wp2
     go_roundw
     case rel=>exact ⟨k+1,_,by omega,by go_num,Lib.hid (by rw [HAL.out];exact HO8.out),HB8,HM8,HP8⟩
     case measure=>simp [intOf];omega
   ·obtain rfl:k=l.length:=by omega
    go_wp2_with fail
    refine (CopyL_any _ (treeGrown l) _ (HO.out.slice (by rw [growL_len];unfold maxLen;omega)) (by unfold treeGrown;rw [growL_len];omega) HD.out).mono ?_
    rintro e w5 ⟨v5,c,rfl,ho,hcb,hb⟩
    have HO5:=Lib.hid (ho.mono HB.out.size)
    have HB5:=Lib.hid (HB.out.trans (hb.mono HB.out.size))
    have HC5:=Lib.hid hcb
    clear ho hb hcb
    go_wp2
    go_ret2
    rw [HF.out]
    exact ⟨_,c,rfl,HO5.out,HC5.out,HB5.out⟩
 ·have HF:=Lib.hid (grown_bad hE)
  have HE:=Lib.hid hE
  clear hE
  go_enter Tryz.func64,Tryz.ntmps64
  go_wp2_with fail
  refine (EntsCheck_any _ l _ HM.out H.out).mono ?_
  rintro e w1 ⟨rfl,hb⟩
  have HB1:=Lib.hid hb
  have hne:=HE.out
  clear hb
  generalize entsFault l=q at *
  go_wp2
  go_ret2
  rw [HF.out]
  exact ⟨_,[],rfl,OwnNods.nil _ _ _,rfl,HB1.out⟩
set_option maxRecDepth 100000 in
set_option maxHeartbeats 2000000 in
theorem GrowL_nil (a : Option Addr) (cap : Nat) (w : World) (hM : MaxOk w) (h : SliceC maxLen 11 (EntC maxLen) w [.slice a 0 cap] []) :
 Calls Tryz.prog 64 #[.slice a 0 cap] w (RetTE 99 w (grown [])):=by
 have HF:=Lib.hid (show grown []=([],0) from grown_ok entsFault_nil)
 have H:=Lib.hid h
 have HM:=Lib.hid hM
 have hmm := @run_makeMap Tryz.prog
 clear h hM
 go_enter Tryz.func64,Tryz.ntmps64
 go_wp2_with fail
 refine (EntsCheck_any _ [] _ HM.out H.out).mono ?_
 rintro e w1 ⟨rfl,hb⟩
 rw [entsFault_nil]
 have HB1:=Lib.hid hb
 have HMB:=Lib.hid (hb.alloc hb.size (.map #[] 0))
 clear hb
 go_wp2
 clear hmm
 go_loop [5,7,8,9,10,19] (fun v _ _ _ _ i=>v = .slice none 0 0/\i = .int .i64 0) (fun _ _ _ _ _ _=>0)
 case atStart=>exact ⟨rfl,rfl⟩
 case round =>
  obtain ⟨rfl,rfl⟩:=hrel
  go_wp2_with fail
  refine (CopyL_nil none 0 _).mono ?_
  rintro e w5 ⟨v5,c,rfl,ho,hcb,hb⟩
  have HO5:=Lib.hid (ho.mono HMB.out.size)
  have HB5:=Lib.hid (HMB.out.trans (hb.mono HMB.out.size))
  have HC5:=Lib.hid hcb
  clear ho hb hcb
  go_wp2
  go_ret2
  rw [HF.out]
  exact ⟨_,c,rfl,HO5.out,HC5.out,HB5.out⟩
theorem GrowL_any (v : Value) (l : List Ent) (w : World) (hM : MaxOk w) (h : SliceC maxLen 11 (EntC maxLen) w [v] l) :
 Calls Tryz.prog 64 #[v] w (RetTE 99 w (grown l)):=by
 rcases ents_cases h with ⟨a,cap,rfl,rfl,_⟩|⟨b,off,cap,rfl,h1,h2,h3,_,h4,h5⟩
 ·exact GrowL_nil a cap w hM h
 ·exact GrowL_at b off cap l w hM h1 h2 h3 h4 h5 h
end Go.Proofs.YtaffgndickdbiaaGreatDoor
