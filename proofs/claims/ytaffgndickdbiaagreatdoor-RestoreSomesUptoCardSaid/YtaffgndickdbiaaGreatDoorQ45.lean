/-
  Texts: TreeAll, FindN, PathIn, TreeP, PutSpec, ResSpec.
-/
import Derived.Test.YtaffgndickdbiaaGreatDoorQ43
set_option linter.unusedVariables false
set_option linter.unusedSimpArgs false
set_option linter.unusedSectionVars false
namespace Go.Creel
open Go.RowKit
theorem treeFault_all {l : List Nod} (h : treeFault l = 0) : l.length ≤ 40 ∧ ∀ k,k < l.length → nodFault (nk l k) = 0 := by
 have hl:l.length<=40:=by
  rcases Nat.lt_or_ge 40 l.length with e|e
  ·rw [treeFault_many e] at h;cases h
  ·exact e
 refine ⟨hl,?_⟩
 have key:∀ k,k<=l.length->∀ j,j<k->stepF l j=0:=by
  intro k
  induction k with
  | zero=>intro _ j hj;omega
  | succ k ih =>
    intro hk j hj
    by_cases e:j=k
    ·subst e
     refine Classical.byContradiction fun hne=>?_
     exact hne ((treeFault_at hl (by omega) (ih (by omega)) rfl hne).symm.trans h)
    ·exact ih (by omega) j (by omega)
 intro k hk
 exact (stepF_zero (key _ (Nat.le_refl _) k hk)).1
open Classical in
theorem take_nk {l : List Nod} {k : Nat} (h : k < l.length) : l.take (k + 1) = l.take k ++ [nk l k] := by rw [List.take_succ_eq_append_getElem h,nk_eq h]
open Go.RowKit
theorem treeFind_lt : ∀ {l : List Nod} {s : ByteArray},treeFind l s < l.length → (nk l (treeFind l s)).path = s
 | [],_,h=>absurd h (by simp)
 | x::t,s,h=>by
   unfold treeFind at h ⊢
   by_cases e:x.path=s
   ·rw [if_pos e];exact e
   ·rw [if_neg e] at h ⊢
    have h':treeFind t s<t.length:=by simp at h;omega
    exact treeFind_lt h'
theorem filter_dat {l : List Nod} (p : Nod → Bool) (h : ∀ i,i < l.length → (nk l i).data.length ≤ 140737488355328) : ∀ i,i < (l.filter p).length → (nk (l.filter p) i).data.length ≤ 140737488355328 := by
 intro i hi
 rw [nk_eq hi]
 have hm:=(List.mem_filter.1 (List.getElem_mem hi)).1
 obtain ⟨j,hj,e⟩:=List.mem_iff_getElem.1 hm
 rw [<-e,<-nk_eq hj]
 exact h j hj
theorem filterTo_keep {p : Nod → Bool} {l : List Nod} {k : Nat} (hk : k < l.length) (h : p (nk l k) = true) : (l.take (k + 1)).filter p = (l.take k).filter p ++ [nk l k] := by
 rw [take_nk hk,List.filter_append,List.filter_cons_of_pos h]
 rfl
theorem filterTo_skip {p : Nod → Bool} {l : List Nod} {k : Nat} (hk : k < l.length) (h : p (nk l k) = false) : (l.take (k + 1)).filter p = (l.take k).filter p := by
 rw [take_nk hk,List.filter_append,List.filter_cons_of_neg (by simp [h])]
 simp
end Go.Creel
namespace Go.Proofs.YtaffgndickdbiaaGreatDoor
open Go.Creel Go.RowKit
theorem FindN_any (v : Value) (l : List Nod) (s : ByteArray) (w : World) (h : SliceC maxLen 12 (NodC maxLen) w [v] l) :
 Calls Tryz.prog 68 #[v,.string s] w fun e w'=>e = .returned (.tuple #[.int .i64 (findIE (treeFind l s) l.length).1,.int .i64 (findIE (treeFind l s) l.length).2])/\Below w.heap.size w w':=by
 rcases nods_cases h with ⟨a,cap,rfl,rfl,_⟩|⟨b,off,cap,rfl,h1,h2,h3,h6,h4,h5⟩
 ·exact Find_nil a cap s w
 ·exact Find_at b off cap l s w h2 h3 h4
theorem TreeFindN_any (v : Value) (l : List Nod) (s : ByteArray) (w : World) (h : SliceC maxLen 12 (NodC maxLen) w [v] l) :
 Calls Tryz.prog 71 #[v,.string s] w fun e w'=>e = .returned (.int .i64 (treeFind l s))/\w=w':=by
 rcases nods_cases h with ⟨a,cap,rfl,rfl,_⟩|⟨b,off,cap,rfl,h1,h2,h3,h6,h4,h5⟩
 ·exact TreeFind_nil a cap s w
 ·exact TreeFind_at b off cap l s w h2 h3 h4
end Go.Proofs.YtaffgndickdbiaaGreatDoor
namespace Go.Creel
open Go.RowKit
def pathIn (s d : ByteArray) : Bool := if d.size = 0 then !decide (s.size = 0) else Lib.hasPrefix s.data.toList (d.data.toList ++ [47])
theorem pathIn_ref {s d : ByteArray} (h : d.size ≠ 0) : pathIn s d = (decide (d.size < s.size) && ((s.extract 0 d.size).toList == d.toList) && decide (byt s d.size = 47)) := by
 unfold pathIn
 rw [if_neg h,Bool.eq_iff_iff]
 unfold Lib.hasPrefix
 rw [List.isPrefixOf_iff_prefix]
 simp only [Bool.and_eq_true,decide_eq_true_eq,beq_iff_eq]
 have hsz:s.size=s.data.toList.length:=Lib.size_eq s
 have hdz:d.size=d.data.toList.length:=Lib.size_eq d
 constructor
 ·rintro ⟨t,ht⟩
  have hlt:d.size<s.size:=by
   have:=congrArg List.length ht
   rw [List.length_append,List.length_append] at this
   simp at this
   omega
  refine ⟨⟨hlt,?_⟩,?_⟩
  ·have e:s.data.toList.take d.data.toList.length=d.data.toList:=by
    rw [<-ht,List.append_assoc]
    exact List.take_left
   rw [Lib.toList_data,Lib.toList_data,Lib.extract_data,List.drop_zero,Nat.sub_zero,hdz,e]
  ·have e:s.data.toList[d.size]?=some 47:=by
    rw [<-ht,List.append_assoc,hdz,List.getElem?_append_right (Nat.le_refl _)]
    simp
   exact (get_byt s d.size hlt 47).1 ((List.getElem_eq_iff _).2 e)
 ·rintro ⟨⟨hlt,h1⟩,h2⟩
  rw [Lib.toList_data,Lib.toList_data,Lib.extract_data] at h1
  simp at h1
  refine ⟨s.data.toList.drop (d.size+1),?_⟩
  have e:=(get_byt s d.size hlt 47).2 h2
  rw [List.append_assoc,List.singleton_append,<-e,<-List.drop_eq_getElem_cons,<-h1,List.take_append_drop]
end Go.Creel
namespace Go.Proofs.YtaffgndickdbiaaGreatDoor
open Go.Creel Go.RowKit
set_option maxRecDepth 100000 in
theorem In_any (s d : ByteArray) (w : World) (hd : d.size ≤ 4000000000) :
 Calls Tryz.prog 69 #[.string s,.string d] w fun e w'=>e = .returned (.bool (pathIn s d))/\w=w':=by
 by_cases h0:d.size=0
 ·have HF:=Lib.hid (show pathIn s d = !decide (s.size=0) by unfold pathIn;rw [if_pos h0])
  have he:=empty_t h0
  by_cases h1:s.size=0
  ·have he1:=empty_t h1
   have H1:=Lib.hid h1
   have HP:Hid (Lib.hasPrefix s.data.toList (d++⟨#[47]⟩).data.toList=false):=Lib.hid (by
    have e1:s.data.toList=[]:=List.eq_nil_of_length_eq_zero (by rw [<-Lib.size_eq s];exact h1)
    have e2:d.data.toList=[]:=List.eq_nil_of_length_eq_zero (by rw [<-Lib.size_eq d];exact h0)
    unfold Lib.hasPrefix
    rw [e1]
    simp [e2])
   clear h0 h1
   go_enter Tryz.func69,Tryz.ntmps69
   go_wp2_with (go_at_call 133;refine (Tryz.strings_HasPrefix _ _ _).mono ?_;rintro e w' ⟨rfl,rfl⟩;rw [HP.out])
   go_ret
   exact ⟨by rw [HF.out];simp [H1.out],rfl⟩
  ·have he1:=empty_f h1
   have H1:=Lib.hid h1
   clear h0 h1
   go_enter Tryz.func69,Tryz.ntmps69
   go_wp2
   go_ret
   exact ⟨by rw [HF.out];simp [H1.out],rfl⟩
 ·have he:=empty_f h0
  have HF:=Lib.hid (show pathIn s d=Lib.hasPrefix s.data.toList (d++⟨#[47]⟩).data.toList by
   unfold pathIn;rw [if_neg h0];simp)
  clear h0
  go_enter Tryz.func69,Tryz.ntmps69
  go_wp2_with (go_at_call 133;refine (Tryz.strings_HasPrefix _ _ _).mono ?_;rintro e w' ⟨rfl,rfl⟩)
  go_ret
  exact ⟨by rw [HF.out];simp,rfl⟩
set_option maxRecDepth 100000 in
theorem PathIn_any (s d : ByteArray) (w : World) (hs : s.size ≤ 4000000000) (hd : d.size ≤ 4000000000) :
 Calls Tryz.prog 72 #[.string s,.string d] w fun e w'=>e = .returned (.bool (pathIn s d))/\Below w.heap.size w w':=by
 by_cases h0:d.size=0
 ·have HF:=Lib.hid (show pathIn s d = !decide (s.size=0) by unfold pathIn;rw [if_pos h0])
  have he:=empty_t h0
  have H0:=Lib.hid h0
  clear h0
  by_cases h1:s.size=0
  ·have he1:=empty_t h1
   have H1:=Lib.hid h1
   clear h1
   go_enter Tryz.func72,Tryz.ntmps72
   go_wp2
   go_ret
   exact ⟨by rw [HF.out];simp [H1.out,he1],Below.refl _ _⟩
  ·have he1:=empty_f h1
   have H1:=Lib.hid h1
   clear h1
   go_enter Tryz.func72,Tryz.ntmps72
   go_wp2
   go_ret
   exact ⟨by rw [HF.out];simp [H1.out,he1],Below.refl _ _⟩
 ·have HF:=Lib.hid (pathIn_ref (s:=s) h0)
  have he:=empty_f h0
  clear h0
  by_cases hlt:d.size<s.size
  ·have hb0:(((s[d.size].toNat:Nat):Int)==47)=decide (byt s d.size=47):=by
    rw [<-byt_get s d.size hlt,Bool.eq_iff_iff,beq_iff_eq,decide_eq_true_eq]
    omega
   have HL:=Lib.hid hlt
   by_cases hq:(s.extract 0 d.size).toList=d.toList
   ·have HQ:=Lib.hid hq
    clear hq
    generalize decide (byt s d.size=47)=z at *
    have HZ:=Lib.hid hb0
    clear hb0
    go_enter Tryz.func72,Tryz.ntmps72
    go_wp2
    ·go_ret
     exact ⟨by rw [HF.out];simp [HL.out,HQ.out,HZ.out],Below.refl _ _⟩
   ·have HQ:=Lib.hid hq
    clear hq hb0
    go_enter Tryz.func72,Tryz.ntmps72
    go_wp2
    ·go_ret
     exact ⟨by rw [HF.out];simp [HQ.out],Below.refl _ _⟩
  ·go_enter Tryz.func72,Tryz.ntmps72
   go_wp2
   go_ret
   exact ⟨by rw [HF.out];simp [hlt],Below.refl _ _⟩
end Go.Proofs.YtaffgndickdbiaaGreatDoor
namespace Go.Creel
open Go.RowKit
theorem tree_steps {l : List Nod} (h : treeFault l = 0) : ∀ k,k < l.length → stepF l k = 0 := by
 have hl:=(treeFault_all h).1
 have key:∀ k,k<=l.length->∀ j,j<k->stepF l j=0:=by
  intro k
  induction k with
  | zero=>intro _ j hj;omega
  | succ k ih =>
    intro hk j hj
    by_cases e:j=k
    ·subst e
     refine Classical.byContradiction fun hne=>?_
     exact hne ((treeFault_at hl (by omega) (ih (by omega)) rfl hne).symm.trans h)
    ·exact ih (by omega) j (by omega)
 exact key _ (Nat.le_refl _)
theorem step_ups {l : List Nod} {i : Nat} (h : stepF l i = 0) : OrdOk l i ∧ UpOk l i := by
 have h0:=(stepF_zero h).1
 have h1:OrdOk l i:=fun hi=>Classical.byContradiction fun e=>by
  have:=stepF_ord h0 hi e
  rw [h] at this;cases this
 refine ⟨h1,fun hu=>Classical.byContradiction fun e=>?_⟩
 have:=stepF_up h0 h1 hu e
 rw [h] at this;cases this
abbrev PathLt (x y : Nod) : Prop := ordP (pathParts x.path) (pathParts y.path) = -1
abbrev LikeOk (x y : Nod) : Prop := y.same ≠ 0 → x.same = y.same → likeB x y = true
structure TreeP (l : List Nod) : Prop where
 few:l.length<=40
 nod:∀ x∈l,nodFault x=0
 ord:l.Pairwise PathLt
 ups:∀ a x b,l=a++x::b->(pathUp x.path).size≠0->∃ y∈a,y.path=pathUp x.path/\y.kind=2
 like:l.Pairwise LikeOk
theorem nk_mem {l : List Nod} {k : Nat} (h : k < l.length) : nk l k ∈ l := by rw [nk_eq h]; exact List.getElem_mem _
theorem nk_mid (a : List Nod) (x : Nod) (b : List Nod) : nk (a ++ x :: b) a.length = x := by
 rw [nk_eq (by simp)];simp
theorem pathLt_trans {x y z : Nod} (h1 : PathLt x y) (h2 : PathLt y z) : PathLt x z := ordP_tr h1 h2
theorem TreeP.of {l : List Nod} (h : treeFault l = 0) : TreeP l := by
 have hs:=tree_steps h
 obtain ⟨h40,hn⟩:=treeFault_all h
 refine ⟨h40,fun x hx=>?_,?_,?_,?_⟩
 ·obtain ⟨i,hi,e⟩:=List.mem_iff_getElem.1 hx
  rw [<-e,<-nk_eq hi];exact hn i hi
 ·rw [List.pairwise_iff_getElem]
  have key:∀ d i,i+d+1<l.length->PathLt (nk l i) (nk l (i+d+1)):=by
   intro d
   induction d with
   | zero=>intro i hi;have:=(step_ups (hs (i+1) hi)).1 (by omega);simpa using this
   | succ d ih =>
     intro i hi
     have h1:=ih i (by omega)
     have h2:=(step_ups (hs (i+d+2) (by omega))).1 (by omega)
     exact pathLt_trans h1 (by simpa [Nat.add_assoc] using h2)
  intro i j hi hj hij
  have:=key (j-i-1) i (by omega)
  rw [show i+(j-i-1)+1=j by omega,nk_eq hi,nk_eq hj] at this
  exact this
 ·intro a x b e hu
  have hlen:a.length<l.length:=by rw [e];simp
  have hup:=(step_ups (hs a.length hlen)).2
  unfold UpOk at hup
  rw [e,nk_mid,List.take_left] at hup
  obtain ⟨h1,h2⟩:=hup hu
  have hp:=treeFind_lt h1
  refine ⟨nk a (treeFind a (pathUp x.path)),nk_mem h1,hp,?_⟩
  rw [nk_eq h1]
  rw [nk_eq (by simp;omega),List.getElem_append_left h1] at h2
  exact h2
 ·rw [List.pairwise_iff_getElem]
  intro i j hi hj hij h1 h2
  have:=(stepF_zero (hs j hj)).2
  rw [nk_eq hj] at this
  have:=this h1 i hij (by rw [nk_eq hi];exact h2)
  rw [nk_eq hi] at this
  exact this
theorem TreeP.filter {l : List Nod} (h : TreeP l) {p : Nod → Bool} (hp : ∀ x y,x ∈ l → y ∈ l → p x = true → y.path = pathUp x.path → (pathUp x.path).size ≠ 0 → p y = true) : TreeP (l.filter p) := by
 refine ⟨Nat.le_trans (List.length_filter_le _ _) h.few,fun x hx=>h.nod x (List.mem_filter.1 hx).1,h.ord.filter _,?_,h.like.filter _⟩
 intro a x b e hu
 obtain ⟨l1,l2,e0,e1,e2⟩:=List.filter_eq_append_iff.1 e
 obtain ⟨m1,m2,e3,e4,e5,e6⟩:=List.filter_eq_cons_iff.1 e2
 obtain ⟨y,hy,hyp,hyk⟩:=h.ups (l1++m1) x m2 (by rw [e0,e3,List.append_assoc]) hu
 have hyl:y∈l:=by rw [e0,e3];rcases List.mem_append.1 hy with h1|h1<;>simp [h1]
 have hxl:x∈l:=by rw [e0,e3];simp
 have hpy:=hp x y hxl hyl e5 hyp hu
 refine ⟨y,?_,hyp,hyk⟩
 rw [<-e1]
 rcases List.mem_append.1 hy with h1|h1
 ·exact List.mem_filter.2 ⟨h1,hpy⟩
 ·exact absurd hpy (e4 y h1)
open Go.RowKit
theorem treeFind_map : ∀ {l m : List Nod} (s : ByteArray),l.map Nod.bare = m.map Nod.bare → treeFind l s = treeFind m s
 | [],[],_,_=>rfl
 | [],_::_,_,h=>by simp at h
 | _::_,[],_,h=>by simp at h
 | x::l,y::m,s,h=>by
   simp only [List.map_cons,List.cons.injEq] at h
   unfold treeFind
   rw [(bare_parts h.1).1,treeFind_map s h.2]
open Go.RowKit
def someB (s : ByteArray) (x : Nod) : Bool := decide (x.path = s) || pathIn x.path s || pathIn s x.path
theorem filterS_bare (s : ByteArray) (l : List Nod) : (l.filter (someB s)).map Nod.bare = (l.map Nod.bare).filter (someB s) := by
 rw [List.filter_map]
 rfl
theorem filter_both {s : ByteArray} {l m : List Nod} (h : l.map Nod.bare = m.map Nod.bare) : (l.filter (someB s)).map Nod.bare = (m.filter (someB s)).map Nod.bare := by
 rw [filterS_bare,filterS_bare,h]
noncomputable def resSome (b : List UInt8) (s : ByteArray) : List Nod × Int :=
 if ¬ (restored b).2=0 then ([],(restored b).2) else if treeFind (restored b).1 s<(restored b).1.length then ((restored b).1.filter (someB s),0) else ([],5)
theorem resSome_bad {b : List UInt8} {s : ByteArray} {l : List Nod} {e : Int} (h : restored b = (l,e)) (he : ¬ e = 0) : resSome b s = ([],e) := by unfold resSome; rw [h]; simp only; rw [if_pos he]
theorem resSome_none {b : List UInt8} {s : ByteArray} {l : List Nod} {e : Int} (h : restored b = (l,e)) (he : e = 0) (hf : ¬ treeFind l s < l.length) : resSome b s = ([],5) := by unfold resSome; rw [h]; simp only; rw [if_neg (by simpa using he),if_neg hf]
theorem resSome_ok {b : List UInt8} {s : ByteArray} {l : List Nod} {e : Int} (h : restored b = (l,e)) (he : e = 0) (hf : treeFind l s < l.length) : resSome b s = (l.filter (someB s),0) := by unfold resSome; rw [h]; simp only; rw [if_neg (by simpa using he),if_pos hf]
theorem resSome_len (b : List UInt8) (s : ByteArray) : (resSome b s).1.length ≤ 40 := by
 unfold resSome
 split
 ·simp
 ·split
  ·exact Nat.le_trans (List.length_filter_le _ _) (restored_len b)
  ·simp
theorem growN_small {l : List Ent} (hz : entsFault l = 0) {i : Nat} (hi : i < l.length) : (growN l l.length i).path.size ≤ 400 ∧ (growN l l.length i).data.length ≤ 2000 := by
 have hE:=fun j (hj:j<l.length)=>(stepE_zero ((entsFault_all hz).2 j hj)).1
 have hp:∀ j,j<l.length->(ek l j).path.size<=400:=fun j hj=>by
  have h:=hE j hj
  unfold entFault entFaultN at h
  refine Classical.byContradiction fun e=>?_
  have h2:=pathFault_size (s:=(ek l j).path) (.inr (by omega))
  rw [if_pos (by rw [h2];decide),h2] at h
  cases h
 by_cases h:(ek l i).kind=4
 ·rw [growN_link h]
  exact ⟨hp i hi,(entFault_size (hE _ (Nat.lt_trans (link_facts hz hi h).1 hi))).1⟩
 ·rw [growN_file h]
  exact ⟨hp i hi,(entFault_size (hE i hi)).1⟩
theorem restored_small {b : List UInt8} (h : (restored b).2 = 0) : ∀ x ∈ (restored b).1,x.path.size ≤ 400 ∧ x.data.length ≤ 2000 := by
 obtain ⟨⟨l,e0⟩,hk⟩:∃ q,arcIn b=q:=⟨_,rfl⟩
 by_cases he:e0=0
 ·rw [restored_ok hk he] at h ⊢
  by_cases hz:entsFault l=0
  ·rw [grown_ok hz]
   intro x hx
   obtain ⟨i,hi,rfl⟩:=List.mem_map.1 hx
   exact growN_small hz (List.mem_range.1 hi)
  ·rw [grown_bad hz] at h;exact absurd h hz
 ·rw [restored_bad hk he] at h;exact absurd h he
theorem small_bare {l m : List Nod} (h : l.map Nod.bare = m.map Nod.bare) (hm : ∀ x ∈ m,x.path.size ≤ 400 ∧ x.data.length ≤ 2000) : ∀ x ∈ l,x.path.size ≤ 400 ∧ x.data.length ≤ 2000 := by
 intro x hx
 have h1:x.bare∈m.map Nod.bare:=by rw [<-h];exact List.mem_map.2 ⟨x,hx,rfl⟩
 obtain ⟨y,hy,e⟩:=List.mem_map.1 h1
 have e1:y.path=x.path:=by have h9:=congrArg Nod.path e;exact h9
 have e2:y.data=x.data:=by have h9:=congrArg Nod.data e;exact h9
 rw [<-e1,<-e2]
 exact hm y hy
end Go.Creel
