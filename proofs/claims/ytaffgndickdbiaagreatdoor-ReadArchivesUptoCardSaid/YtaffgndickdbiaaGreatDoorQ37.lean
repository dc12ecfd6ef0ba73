/-
  Texts: EntsSpec, ArcRSpec, ZeroB, SomeL, SomeR.
-/
import Derived.Test.YtaffgndickdbiaaGreatDoorQ25
import Derived.Test.YtaffgndickdbiaaGreatDoorQ35
import Derived.Test.YtaffgndickdbiaaGreatDoorQ34
set_option linter.unusedVariables false
set_option linter.unusedSimpArgs false
set_option linter.unusedSectionVars false
namespace Go.Creel
open Go.RowKit
def metGet (l : List Ent) (k : Nat) (s : ByteArray) : Ent := if entFind (l.take k) s < k then ek l (entFind (l.take k) s) else entZ
theorem metGet_yes {l : List Ent} {k : Nat} {s : ByteArray} (h : entFind (l.take k) s < k) : metGet l k s = ek l (entFind (l.take k) s) := if_pos h
theorem metGet_no {l : List Ent} {k : Nat} {s : ByteArray} (h : ¬ entFind (l.take k) s < k) : metGet l k s = entZ := if_neg h
def OrdOkE (l : List Ent) (i : Nat) : Prop := 0 < i → ordP (pathParts (ek l (i - 1)).path) (pathParts (ek l i).path) = -1
def UpOkE (l : List Ent) (i : Nat) : Prop := (pathUp (ek l i).path).size ≠ 0 → (metGet l i (pathUp (ek l i).path)).kind = 2
def LinkOkE (l : List Ent) (i : Nat) : Prop := (ek l i).kind = 4 → (metGet l i (ek l i).target).kind = 1 ∧ (metGet l i (ek l i).target).mt = (ek l i).mt
open Classical in
noncomputable def stepE (l : List Ent) (i : Nat) : Int :=
 if ¬ entFault (ek l i)=0 then entFault (ek l i) else if ¬ OrdOkE l i then 6 else if ¬ UpOkE l i then 10 else if ¬ LinkOkE l i then 11 else 0
open Classical in
noncomputable def entsFault (l : List Ent) : Int :=
 if 40<l.length then 1 else if h:∃ k,k<l.length/\stepE l k≠0/\∀ j,j<k->stepE l j=0 then stepE l (Classical.choose h) else 0
theorem entsFault_many {l : List Ent} (h : 40 < l.length) : entsFault l = 1 := by unfold entsFault; rw [if_pos h]
theorem entsFault_at {l : List Ent} {k : Nat} {e : Int} (hl : l.length ≤ 40) (hk : k < l.length) (hz : ∀ j,j < k → stepE l j = 0) (he : stepE l k = e) (hne : e ≠ 0) : entsFault l = e := by
 have hex:∃ k,k<l.length/\stepE l k≠0/\∀ j,j<k->stepE l j=0:=⟨k,hk,by rw [he];exact hne,hz⟩
 unfold entsFault
 rw [if_neg (by omega),dif_pos hex]
 obtain ⟨h1,h2,h3⟩:=Classical.choose_spec hex
 have:Classical.choose hex=k:=by
  rcases Nat.lt_trichotomy (Classical.choose hex) k with h|h|h
  ·exact absurd (hz _ h) h2
  ·exact h
  ·exact absurd (h3 _ h) (by rw [he];exact hne)
 rw [this,he]
theorem entsFault_ok {l : List Ent} (hl : l.length ≤ 40) (hz : ∀ j,j < l.length → stepE l j = 0) : entsFault l = 0 := by
 unfold entsFault
 rw [if_neg (by omega),dif_neg (by rintro ⟨k,h1,h2,_⟩;exact h2 (hz k h1))]
theorem entsFault_all {l : List Ent} (h : entsFault l = 0) : l.length ≤ 40 ∧ ∀ k,k < l.length → stepE l k = 0 := by
 have hl:l.length<=40:=by
  rcases Nat.lt_or_ge 40 l.length with e|e
  ·rw [entsFault_many e] at h;cases h
  ·exact e
 refine ⟨hl,?_⟩
 have key:∀ k,k<=l.length->∀ j,j<k->stepE l j=0:=by
  intro k
  induction k with
  | zero=>intro _ j hj;omega
  | succ k ih =>
    intro hk j hj
    by_cases e:j=k
    ·subst e
     refine Classical.byContradiction fun hne=>?_
     exact hne ((entsFault_at hl (by omega) (ih (by omega)) rfl hne).symm.trans h)
    ·exact ih (by omega) j (by omega)
 exact key _ (Nat.le_refl _)
theorem stepE_ent {l : List Ent} {i : Nat} (h : ¬ entFault (ek l i) = 0) : stepE l i = entFault (ek l i) := by unfold stepE; rw [if_pos h]
theorem stepE_ord {l : List Ent} {i : Nat} (h : entFault (ek l i) = 0) (h1 : ¬ OrdOkE l i) : stepE l i = 6 := by unfold stepE; rw [if_neg (by simpa using h),if_pos h1]
theorem stepE_up {l : List Ent} {i : Nat} (h : entFault (ek l i) = 0) (h1 : OrdOkE l i) (h2 : ¬ UpOkE l i) : stepE l i = 10 := by unfold stepE; rw [if_neg (by simpa using h),if_neg (by simpa using h1),if_pos h2]
theorem stepE_link {l : List Ent} {i : Nat} (h : entFault (ek l i) = 0) (h1 : OrdOkE l i) (h2 : UpOkE l i) (h3 : ¬ LinkOkE l i) : stepE l i = 11 := by unfold stepE; rw [if_neg (by simpa using h),if_neg (by simpa using h1),if_neg (by simpa using h2),if_pos h3]
theorem stepE_ok {l : List Ent} {i : Nat} (h : entFault (ek l i) = 0) (h1 : OrdOkE l i) (h2 : UpOkE l i) (h3 : LinkOkE l i) : stepE l i = 0 := by unfold stepE; rw [if_neg (by simpa using h),if_neg (by simpa using h1),if_neg (by simpa using h2),if_neg (by simpa using h3)]
theorem stepE_zero {l : List Ent} {i : Nat} (h : stepE l i = 0) : entFault (ek l i) = 0 ∧ OrdOkE l i := by
 have h0:entFault (ek l i)=0:=Classical.byContradiction fun e=>e ((stepE_ent e).symm.trans h)
 refine ⟨h0,Classical.byContradiction fun e=>?_⟩
 rw [stepE_ord h0 e] at h
 cases h
theorem entFault_path {x : Ent} (h : entFault x = 0) : x.path.size ≤ 400 := by
 unfold entFault entFaultN at h
 have hp:pathFault x.path=0:=Classical.byContradiction fun e=>by rw [if_pos e] at h;exact e h
 refine Classical.byContradiction fun e=>?_
 have:=pathFault_size (s:=x.path) (.inr (by omega))
 rw [hp] at this
 cases this
theorem ordP_range (X Y : List ByteArray) : ordP X Y = -1 ∨ ordP X Y = 0 ∨ ordP X Y = 1 := by
 induction X generalizing Y with
 | nil=>cases Y<;>simp [ordP]
 | cons x X ih =>
   cases Y with
   | nil=>simp [ordP]
   | cons y Y =>
     unfold ordP
     split
     ·exact ih Y
     ·rcases cmpS_cases x y with ⟨_,h⟩|⟨_,_,h⟩|⟨_,_,h⟩<;>simp [h]
open Classical in
noncomputable def ordBadE (l : List Ent) (k : Nat) : Bool := decide (¬ OrdOkE l k)
theorem ordBadE_t {l : List Ent} {k : Nat} (h : ¬ OrdOkE l k) : ordBadE l k = true := by unfold ordBadE; simp [h]
theorem ordBadE_f {l : List Ent} {k : Nat} (h : OrdOkE l k) : ordBadE l k = false := by unfold ordBadE; simp [h]
open Classical in
noncomputable def upOkE (l : List Ent) (k : Nat) : Bool := decide (UpOkE l k)
theorem upOkE_t {l : List Ent} {k : Nat} (h : UpOkE l k) : upOkE l k = true := by unfold upOkE; simp [h]
theorem upOkE_f {l : List Ent} {k : Nat} (h : ¬ UpOkE l k) : upOkE l k = false := by unfold upOkE; simp [h]
open Classical in
noncomputable def linkOkE (l : List Ent) (k : Nat) : Bool := decide (LinkOkE l k)
theorem linkOkE_t {l : List Ent} {k : Nat} (h : LinkOkE l k) : linkOkE l k = true := by unfold linkOkE; simp [h]
theorem linkOkE_f {l : List Ent} {k : Nat} (h : ¬ LinkOkE l k) : linkOkE l k = false := by unfold linkOkE; simp [h]
theorem ordE_zero (l : List Ent) : ordBadE l 0 = false := ordBadE_f (fun h => absurd h (by omega))
theorem ordE_dec (l : List Ent) (q : Nat) : decide (0 ≤ ordP (pathParts (ek l q).path) (pathParts (ek l (q + 1)).path)) = ordBadE l (q + 1) := by
 by_cases h:ordP (pathParts (ek l q).path) (pathParts (ek l (q+1)).path) = -1
 ·rw [ordBadE_f (fun _=>by simpa using h),h];rfl
 ·rw [ordBadE_t (fun e=>h (by simpa using e (by omega)))]
  rcases ordP_range (pathParts (ek l q).path) (pathParts (ek l (q+1)).path) with e|e|e
  ·exact absurd e h
  ·rw [e];rfl
  ·rw [e];rfl
theorem zsE_next {l : List Ent} {k : Nat} (hz : ∀ j,j < k → stepE l j = 0) (h : stepE l k = 0) : ∀ j,j < k + 1 → stepE l j = 0 := fun j hj => by
 by_cases e:j=k
 ·rw [e];exact h
 ·exact hz j (by omega)
theorem meta_sameE {x y : Meta} (h0 : x.mode = y.mode) (h1 : x.uid = y.uid) (h2 : x.gid = y.gid) (h3 : x.user.toList = y.user.toList) (h4 : x.group.toList = y.group.toList) (h5 : x.second = y.second) (h6 : x.nano = y.nano) : x = y := by
 obtain ⟨a,b,c,d,e,f,g⟩:=x
 obtain ⟨a',b',c',d',e',f',g'⟩:=y
 simp only at *
 rw [h0,h1,h2,toList_inj h3,toList_inj h4,h5,h6]
theorem meta_casesE {x y : Meta} (h : x ≠ y) : (¬ x.mode = y.mode) ∨ (x.mode = y.mode ∧ ¬ x.uid = y.uid) ∨ (x.mode = y.mode ∧ x.uid = y.uid ∧ ¬ x.gid = y.gid) ∨ (x.mode = y.mode ∧ x.uid = y.uid ∧ x.gid = y.gid ∧ ¬ x.user.toList = y.user.toList) ∨
 (x.mode=y.mode/\x.uid=y.uid/\x.gid=y.gid/\x.user.toList=y.user.toList/\¬ x.group.toList=y.group.toList)\/(x.mode=y.mode/\x.uid=y.uid/\x.gid=y.gid/\x.user.toList=y.user.toList/\x.group.toList=y.group.toList/\¬ x.second=y.second) ∨
 (x.mode=y.mode/\x.uid=y.uid/\x.gid=y.gid/\x.user.toList=y.user.toList/\x.group.toList=y.group.toList/\x.second=y.second/\¬ x.nano=y.nano):=by
 by_cases h0:x.mode=y.mode
 ·by_cases h1:x.uid=y.uid
  ·by_cases h2:x.gid=y.gid
   ·by_cases h3:x.user.toList=y.user.toList
    ·by_cases h4:x.group.toList=y.group.toList
     ·by_cases h5:x.second=y.second
      ·by_cases h6:x.nano=y.nano
       ·exact absurd (meta_sameE h0 h1 h2 h3 h4 h5 h6) h
       ·simp [h0,h1,h2,h3,h4,h5,h6]
      ·simp [h0,h1,h2,h3,h4,h5]
     ·simp [h0,h1,h2,h3,h4]
    ·simp [h0,h1,h2,h3]
   ·simp [h0,h1,h2]
  ·simp [h0,h1]
 ·simp [h0]
open Go.RowKit
theorem bytes_mid {N : Nat} {w : World} {a : Option Addr} {n cap i j : Nat} {l : List UInt8} (h : SliceC N 1 ByteC w [.slice a n cap] l) (hi : i ≤ j) (hj : j ≤ l.length) : SliceC N 1 ByteC w [sliced a i j cap 1] ((l.drop i).take (j - i)) :=
 bytes_take (bytes_drop h (Nat.le_trans hi hj)) (by rw [List.length_drop];omega)
abbrev zeroN (n : Nat) : List UInt8 := List.replicate n 0
theorem ek_map (l : List Ent) (k : Nat) : ek (l.map Ent.bare) k = (ek l k).bare := by
 unfold ek
 rw [List.getD_eq_getElem?_getD,List.getElem?_map,List.getD_eq_getElem?_getD]
 cases l[k]?<;>rfl
theorem entFind_map (s : ByteArray) : ∀ l : List Ent,entFind (l.map Ent.bare) s = entFind l s
 | []=>rfl
 | x::t=>by
   simp only [List.map_cons,entFind,entFind_map s t]
   rfl
theorem metGet_map (l : List Ent) (k : Nat) (s : ByteArray) : metGet (l.map Ent.bare) k s = (metGet l k s).bare := by
 unfold metGet
 rw [<-List.map_take,entFind_map,ek_map]
 split<;>rfl
open Classical in
theorem stepE_map (l : List Ent) (i : Nat) : stepE (l.map Ent.bare) i = stepE l i := by
 have h0:entFault (ek (l.map Ent.bare) i)=entFault (ek l i):=by rw [ek_map];rfl
 have h1:OrdOkE (l.map Ent.bare) i↔OrdOkE l i:=by unfold OrdOkE;rw [ek_map,ek_map];exact Iff.rfl
 have h2:UpOkE (l.map Ent.bare) i↔UpOkE l i:=by unfold UpOkE;rw [ek_map,metGet_map];exact Iff.rfl
 have h3:LinkOkE (l.map Ent.bare) i↔LinkOkE l i:=by unfold LinkOkE;rw [ek_map,metGet_map];exact Iff.rfl
 unfold stepE
 rw [h0]
 exact ite_congr rfl (fun _=>rfl) (fun _=>ite_congr (propext (not_congr h1)) (fun _=>rfl) (fun _=>ite_congr (propext (not_congr h2)) (fun _=>rfl) (fun _=>ite_congr (propext (not_congr h3)) (fun _=>rfl) (fun _=>rfl))))
theorem entsFault_map (l : List Ent) : entsFault (l.map Ent.bare) = entsFault l := by
 have h:stepE (l.map Ent.bare)=stepE l:=funext (stepE_map l)
 unfold entsFault
 rw [List.length_map,h]
theorem entsFault_bare {l m : List Ent} (h : l.map Ent.bare = m.map Ent.bare) : entsFault l = entsFault m := by
 rw [<-entsFault_map l,<-entsFault_map m,h]
theorem memEnd_rng {b : List UInt8} {n : Nat} {h : HeadN} {l : List Rec} {d : List UInt8} (he : (memEnd b n h l d).2.2 = 0) : (memEnd b n h l d).2.1 = (n : Int) := by
 unfold memEnd at he ⊢
 split at he
 ·rename_i h1;rw [if_pos h1]
 ·cases he
theorem memOf_rng {b : List UInt8} (he : (memOf b).2.2 = 0) : ∃ n : Nat,(memOf b).2.1 = (n : Int) ∧ 512 ≤ n ∧ n ≤ b.length := by
 obtain ⟨⟨h1,d1,r1,e1⟩,hk⟩:∃ q,blockOf b=q:=⟨_,rfl⟩
 by_cases h0:e1=0
 ·subst h0
  have hf:=firstOf_drop hk
  by_cases ht:h1.typ=120
  ·obtain ⟨⟨l,e2⟩,hp⟩:∃ q,paxOf (ofL d1)=q:=⟨_,rfl⟩
   by_cases he2:e2=0
   ·subst he2
    obtain ⟨⟨h2,d2,r2,e3⟩,hk2⟩:∃ q,blockOf r1=q:=⟨_,rfl⟩
    by_cases he3:e3=0
    ·subst he3
     have hf2:=firstOf_drop hk2
     rw [memOf_pax hk ht hp hk2] at he ⊢
     exact ⟨_,memEnd_rng he,by omega,by omega⟩
    ·rw [memOf_bad3 hk ht hp hk2 he3] at he;exact absurd he he3
   ·rw [memOf_bad2 hk ht hp he2] at he;exact absurd he he2
  ·rw [memOf_plain hk ht] at he ⊢
   exact ⟨_,memEnd_rng he,by omega,by omega⟩
 ·rw [memOf_bad1 hk h0] at he;exact absurd he h0
open Classical in
noncomputable def someGo (b : List UInt8) : Nat → Nat → List Ent → List Ent × Nat × Int
 | 0,k,acc=>(acc,k,7)
 | f+1,k,acc =>
   if (b.drop k).length<512 then (acc,k,7)
   else if (b.drop k).take 512=zeroN 512 then (acc,k,0)
   else if ¬ (memOf (b.drop k)).2.2=0 then (acc,k,(memOf (b.drop k)).2.2)
   else someGo b f (k+(memOf (b.drop k)).2.1.toNat) (acc++[(memOf (b.drop k)).1])
noncomputable def someOf (b : List UInt8) : List Ent × Nat × Int := someGo b (b.length + 1) 0 []
section
variable {b : List UInt8} {f k : Nat} {acc : List Ent}
theorem someGo_short (h : (b.drop k).length < 512) : someGo b (f + 1) k acc = (acc,k,7) := by
 unfold someGo;rw [if_pos h]
theorem someGo_zero (h : ¬ (b.drop k).length < 512) (h2 : (b.drop k).take 512 = zeroN 512) : someGo b (f + 1) k acc = (acc,k,0) := by
 unfold someGo;rw [if_neg h,if_pos h2]
theorem someGo_bad (h : ¬ (b.drop k).length < 512) (h2 : ¬ (b.drop k).take 512 = zeroN 512) {x : Ent} {n e : Int} (h3 : memOf (b.drop k) = (x,n,e)) (he : ¬ e = 0) : someGo b (f + 1) k acc = (acc,k,e) := by
 unfold someGo;rw [if_neg h,if_neg h2,h3];simp only;rw [if_pos he]
theorem someGo_step (h : ¬ (b.drop k).length < 512) (h2 : ¬ (b.drop k).take 512 = zeroN 512) {x : Ent} {n : Nat} (h3 : memOf (b.drop k) = (x,(n : Int),0)) : someGo b (f + 1) k acc = someGo b f (k + n) (acc ++ [x]) := by
 conv=>lhs;unfold someGo
 rw [if_neg h,if_neg h2,h3];simp only;rw [if_neg (by simp),Int.toNat_natCast]
end
theorem someGo_at (b : List UInt8) : ∀ (f k : Nat) (acc : List Ent),k ≤ b.length → (someGo b f k acc).2.1 ≤ b.length
 | 0,k,acc,h=>h
 | f+1,k,acc,h=>by
   unfold someGo
   split
   ·exact h
   ·split
    ·exact h
    ·split
     ·exact h
     ·rename_i h3
      obtain ⟨n,hn,_,hle⟩:=memOf_rng (Classical.not_not.1 h3)
      rw [hn,Int.toNat_natCast]
      rw [List.length_drop] at hle
      exact someGo_at b f _ _ (by omega)
theorem someOf_at (b : List UInt8) : (someOf b).2.1 ≤ b.length := someGo_at b _ 0 [] (Nat.zero_le _)
open Classical in
noncomputable def arcIn (b : List UInt8) : List Ent × Int :=
 if ¬ (someOf b).2.2=0 then ([],(someOf b).2.2)
 else if ¬ b.drop (someOf b).2.1=zeroN 1024 then ([],3)
 else if ¬ entsFault (someOf b).1=0 then ([],entsFault (someOf b).1)
 else ((someOf b).1,0)
section
variable {b : List UInt8} {l : List Ent} {k : Nat} {e : Int}
theorem arcIn_bad (h : someOf b = (l,k,e)) (he : ¬ e = 0) : arcIn b = ([],e) := by unfold arcIn; rw [h]; simp only; rw [if_pos he]
theorem arcIn_form (h : someOf b = (l,k,0)) (h2 : ¬ b.drop k = zeroN 1024) : arcIn b = ([],3) := by unfold arcIn; rw [h]; simp only; rw [if_neg (by simp),if_pos h2]
theorem arcIn_fault (h : someOf b = (l,k,0)) (h2 : b.drop k = zeroN 1024) (h3 : ¬ entsFault l = 0) : arcIn b = ([],entsFault l) := by unfold arcIn; rw [h]; simp only; rw [if_neg (by simp),if_neg (by simpa using h2),if_pos h3]
theorem arcIn_ok (h : someOf b = (l,k,0)) (h2 : b.drop k = zeroN 1024) (h3 : entsFault l = 0) : arcIn b = (l,0) := by unfold arcIn; rw [h]; simp only; rw [if_neg (by simp),if_neg (by simpa using h2),if_neg (by simpa using h3)]
end
def RetSome (t : TypeId) (w : World) (p : List Ent × Nat × Int) (e : Ending) (w' : World) : Prop := ∃ v l',e = .returned (.tuple #[v,.int .i64 (p.2.1 : Int),.int .i64 p.2.2]) ∧ OwnEnts t w' w.heap.size v l' ∧ l'.map Ent.bare = p.1.map Ent.bare ∧ l'.length ≤ 2048 ∧ (∀ x ∈ l',∀ p,x.da = some p → w.heap.size ≤ p.block) ∧ Below w.heap.size w w'
def RetArc (t : TypeId) (w : World) (p : List Ent × Int) (e : Ending) (w' : World) : Prop := ∃ v l',e = .returned (.tuple #[v,.int .i64 p.2]) ∧ OwnEnts t w' w.heap.size v l' ∧ l'.map Ent.bare = p.1.map Ent.bare ∧ (∀ x ∈ l',∀ p,x.da = some p → w.heap.size ≤ p.block) ∧ Below w.heap.size w w'
end Go.Creel
namespace Go.Proofs.YtaffgndickdbiaaGreatDoor
open Go.Creel Go.RowKit
theorem all_zeroB {l : List UInt8} (h : ∀ j,j < l.length → bl l j = 0) : l = List.replicate l.length 0 := by
 apply List.ext_getElem (by simp)
 intro i h1 h2
 rw [List.getElem_replicate]
 have:=h i h1
 unfold bl at this
 rw [List.getD_eq_getElem?_getD,List.getElem?_eq_getElem h1] at this
 simp only [Option.getD_some] at this
 exact UInt8.toNat_inj.1 this
theorem one_oddB {l : List UInt8} {k : Nat} (hk : k < l.length) (h : bl l k ≠ 0) : ¬ l = List.replicate l.length 0 := by
 intro e
 apply h
 unfold bl
 rw [e,List.getD_eq_getElem?_getD,List.getElem?_replicate]
 simp [hk]
set_option maxRecDepth 100000 in
set_option maxHeartbeats 400000 in
theorem Zero_any (v : Value) (l : List UInt8) (w : World) (h : SliceC maxLen 1 ByteC w [v] l) :
 Calls Tryz.prog 62 #[v] w fun e w'=>e = .returned (.bool (decide (l=List.replicate l.length 0)))/\w=w':=by
 rcases bytes_cases h with ⟨a,cap,rfl,rfl⟩|⟨b,off,cap,rfl,hpos,hle,hm,_,hc⟩
 ·go_enter Tryz.func62,Tryz.ntmps62
  go_wp2
  go_loop [4,7] (fun _ i=>i = .int .i64 0) (fun _ _=>0)
  case atStart=>rfl
  case round =>
   obtain rfl:=hrel
   go_wp2
   go_ret
   exact ⟨rfl,rfl⟩
 ·unfold maxLen at hm
  have Hc:=Lib.hid hc
  clear hc h
  go_enter Tryz.func62,Tryz.ntmps62
  go_wp2
  go_loop [4,7] (fun _ i=>∃ k:Nat,k<=l.length/\i = .int .i64 k/\Hid (∀ j,j<k->bl l j=0)) (fun _ i=>l.length-(intOf i).toNat)
  case atStart=>exact ⟨0,by omega,rfl,Lib.hid (fun j hj=>absurd hj (by omega))⟩
  case round =>
   obtain ⟨k,hk,rfl,HD⟩:=hrel
   by_cases hlt:k<l.length
   ·have hcell:=Hc.out k hlt
    by_cases hz:bl l k=0
    ·have hq:((bl l k:Int) != 0)=false:=by rw [hz];rfl
     have HZ:=Lib.hid hz
     clear hz
     go_wp2
     go_round
     case rel=>exact ⟨k+1,by omega,by go_num,Lib.hid (fun j hj=>by
      by_cases e:j=k
      ·rw [e];exact HZ.out
      ·exact HD.out j (by omega))⟩
     case measure=>simp [intOf];omega
    ·have hq:((bl l k:Int) != 0)=true:=by rw [bne_iff_ne];omega
     have HF:=Lib.hid (one_oddB hlt hz)
     clear hz
     go_wp2
     go_ret
     exact ⟨congrArg (fun q=>Ending.returned (Value.bool q)) (decide_eq_false HF.out).symm,rfl⟩
   ·obtain rfl:k=l.length:=by omega
    have HF:=Lib.hid (all_zeroB HD.out)
    go_wp2
    go_ret
    exact ⟨congrArg (fun q=>Ending.returned (Value.bool q)) (decide_eq_true HF.out).symm,rfl⟩
open Go.Creel Go.RowKit
abbrev boxE2 (x : Ent) : Obj := (.cells #[.string x.path,.int .i64 x.kind,.string x.target,.int .i64 x.mt.mode,.int .i64 x.mt.uid,.int .i64 x.mt.gid,.string x.mt.user,.string x.mt.group,.int .i64 x.mt.second,.int .i64 x.mt.nano,.slice x.da x.data.length x.dcap] 26)
theorem info_entry2 : (Tryz.prog.info? 26).map (fun i => (i.zero,i.size,i.bytes)) = some (some (.agg #[.string ⟨#[]⟩,.int .i64 0,.string ⟨#[]⟩,.int .i64 0,.int .i64 0,.int .i64 0,.string ⟨#[]⟩,.string ⟨#[]⟩,.int .i64 0,.int .i64 0,.slice none 0 0]),11,136) := by kernel_rfl
theorem sofs_eq {a b : List UInt8} (h : a = b) : ((ofL a).toList == (ofL b).toList) = true := by rw [h]; simp
theorem sofs_ne {a b : List UInt8} (h : ¬ a = b) : ((ofL a).toList == (ofL b).toList) = false := by
 have:=ne_f h
 simpa using this
theorem entIn_out {t : TypeId} {w wr w2 W : World} {v : Value} {c : List Ent} {x y : Ent} (hx : EntOut wr w2 x y) (hb : Below w2.heap.size w2 W) (hown : OwnEnts t wr w.heap.size v c) : EntIn W v x := by
 refine ⟨hx.2.1.below hb,fun a hp ha e=>?_⟩
 have h3:=hx.2.2 a ha
 have h4:=(World.ownsRow.lt hown.1 _ e).2
 omega
set_option maxRecDepth 100000 in
set_option maxHeartbeats 2000000 in
theorem SomeL_any (v : Value) (b : List UInt8) (w : World) (h : SliceC maxLen 1 ByteC w [v] b) (hbl : b.length ≤ 1048576) (hM : MaxOk w) (hE : ErrsOk w) (hT : Pow10 w) :
 Calls Tryz.prog 25 #[v] w (RetSome 26 w (someOf b)):=by
 obtain ⟨a,cap,hv,hcp⟩:=bytes_form h
 subst hv
 obtain ⟨i0,hi,hz0,hz1,hz2⟩:=info_parts info_entry2
 have HI:=Lib.hid (And.intro hi (And.intro hz0 (And.intro hz1 hz2)))
 have hs2:∀ (k:Nat),k<=b.length->∀ W:World,(Instr.slice 24 (.slice a b.length cap) (some (.int .i64 (k:Int))) none none).run Tryz.prog W = .ok (sliced a k b.length cap 1) W:=fun k hk W=>run_dropB W a b.length cap k hk hcp
 have HS2:=Lib.hid hs2
 have HDR:=Lib.hid (fun k (hk:k<=b.length)=>bytes_drop (i:=k) h hk)
 have HGET:=Lib.hid (fun (v2:Value) (b2:List UInt8) (W:World) (h2:SliceC maxLen 1 ByteC W [v2] b2) (hl:b2.length<=1048576) (hb:Below w.heap.size w W)=>MemRd_any v2 b2 W h2 hl (hM.below hb) (hE.below hb) (hT.below hb))
 have HSO:Hid (someOf b=someGo b (b.length+1) 0 []):=Lib.hid rfl
 generalize someOf b=so at *
 clear h hM hE hT hi hz0 hz1 hz2 hs2
 go_enter Tryz.func25,Tryz.ntmps25
 go_wp2_with fail
 go_loopw [5,6,7,8,9,10] (fun u5 u6 _ _ _ _ wr=>∃ (k f:Nat) (acc acc':List Ent),k<=b.length/\u6 = .int .i64 (k:Int)/\b.length<=f+k/\acc.length*512<=k/\Hid (so=someGo b (f+1) k acc)/\Hid (acc'.map Ent.bare=acc.map Ent.bare)/\Hid (∀ x∈acc',∀ p,x.da=some p->w.heap.size<=p.block)/\Hid (OwnEnts 26 wr w.heap.size u5 acc')/\Hid (Below w.heap.size w wr)) (fun _ u6 _ _ _ _ _=>b.length-(intOf u6).toNat)
 case atStart=>exact ⟨0,b.length,[],[],by omega,rfl,by omega,by simp,HSO,Lib.hid rfl,Lib.hid (fun x hx=>absurd hx (by simp)),Lib.hid (OwnEnts.nil _ _ _),Lib.hid (Below.refl _ _)⟩
 case round =>
  obtain ⟨k,f,acc,acc',hk,rfl,hfk,hal,HSG,HBR,HPL,HOW,HB⟩:=hrel
  obtain ⟨vv,rfl⟩:∃ V:Value,V=u5:=⟨_,rfl⟩
  have hlen:acc'.length=acc.length:=bareE_len HBR.out
  obtain ⟨ak,ck,hsk,hcpk⟩:=bytes_form (HDR.out k hk)
  have hsl2:∀ W:World,(Instr.slice 24 (.slice a b.length cap) (some (.int .i64 (k:Int))) none none).run Tryz.prog W = .ok (.slice ak (b.drop k).length ck) W:=fun W=>by rw [<-hsk];exact HS2.out k hk W
  have HD:=HDR.out k hk
  rw [hsk] at HD
  obtain ⟨bk,hbk⟩:∃ bk,bk=b.drop k:=⟨_,rfl⟩
  have HQ1:=Lib.hid (fun h=>HSG.out.trans (someGo_short (b:=b) (f:=f) (k:=k) (acc:=acc) h))
  have HQ2:=Lib.hid (fun h h2=>HSG.out.trans (someGo_zero (b:=b) (f:=f) (k:=k) (acc:=acc) h h2))
  have HQ3:=Lib.hid (fun h h2 x n e h3 he=>HSG.out.trans (someGo_bad (b:=b) (f:=f) (k:=k) (acc:=acc) h h2 (x:=x) (n:=n) (e:=e) h3 he))
  have HQ4:=Lib.hid (fun h h2 x n h3=>HSG.out.trans (someGo_step (b:=b) (f:=f) (k:=k) (acc:=acc) h h2 (x:=x) (n:=n) h3))
  have hbl2:bk.length+k=b.length:=by rw [hbk,List.length_drop];omega
  rw [<-hbk] at HQ1 HQ2 HQ3 HQ4 HD hsl2 hcpk
  clear hsk hbk HSG
  by_cases hsh:bk.length<512
  ·have hd:((bk.length:Int)<512):=by omega
   have HQ:=Lib.hid (HQ1.out hsh)
   clear HQ1 HQ2 HQ3 HQ4 hsh
   go_wp2
   go_ret3
   rw [HQ.out]
   exact ⟨_,acc',rfl,HOW.out,HBR.out,by omega,HPL.out,HB.out⟩
  ·have hd:¬ ((bk.length:Int)<512):=by omega
   have htk:∀ W:World,(Instr.slice 24 (.slice ak bk.length ck) none (some (.int .i64 512)) none).run Tryz.prog W = .ok (.slice ak 512 ck) W:=fun W=>run_takeB W ak bk.length ck 512 (by omega) hcpk
   have htl:(bk.take 512).length=512:=by rw [List.length_take];omega
   have HZ0:=Lib.hid (Zero_any (.slice ak 512 ck) (bk.take 512) wr (bytesBelow (bytes_take HD (by omega)) HB.out))
   rw [htl] at HZ0
   by_cases hz:bk.take 512=zeroN 512
   ·have HQ:=Lib.hid (HQ2.out hsh hz)
    have HZ1:Hid (Calls Tryz.prog 62 #[.slice ak 512 ck] wr fun e w'=>e = .returned (.bool true)/\wr=w'):=Lib.hid (by have:=HZ0.out;rw [decide_eq_true hz] at this;exact this)
    clear HQ1 HQ2 HQ3 HQ4 hsh hz HZ0
    go_wp2_with fail
    refine HZ1.out.mono ?_
    rintro e w1 ⟨rfl,rfl⟩
    go_wp2
    go_ret3
    rw [HQ.out]
    exact ⟨_,acc',rfl,HOW.out,HBR.out,by omega,HPL.out,HB.out⟩
   ·have HZ1:Hid (Calls Tryz.prog 62 #[.slice ak 512 ck] wr fun e w'=>e = .returned (.bool false)/\wr=w'):=Lib.hid (by have:=HZ0.out;rw [decide_eq_false hz] at this;exact this)
    clear HZ0
    go_wp2_with fail
    refine HZ1.out.mono ?_
    rintro e w1 ⟨rfl,rfl⟩
    have HDW:=Lib.hid (bytesBelow HD HB.out)
    have HCALL:=Lib.hid (HGET.out (.slice ak bk.length ck) bk wr HDW.out (by omega) HB.out)
    obtain ⟨⟨y,n,e0⟩,hmo⟩:∃ q,memOf bk=q:=⟨_,rfl⟩
    have HRNG:=Lib.hid (fun he=>memOf_rng (b:=bk) he)
    rw [hmo] at HCALL HRNG
    simp only at HRNG
    go_wp2_with fail
    refine HCALL.out.mono ?_
    rintro e w2 ⟨x,rfl,hx,hb2⟩
    have HB2:=Lib.hid (HB.out.trans (hb2.mono HB.out.size))
    have HX:=Lib.hid hx
    have HBB:=Lib.hid hb2
    have HO2:=Lib.hid (HOW.out.below hb2)
    clear hx hb2 HCALL
    by_cases he:e0=0
    ·subst he
     obtain ⟨m,hm,hm1,hm2⟩:=HRNG.out rfl
     (try simp only at hm)
     subst hm
     have HQ:=Lib.hid (HQ4.out hsh hz _ _ hmo)
     clear HQ1 HQ2 HQ3 HQ4 HRNG hsh hz hmo
     go_upto_region 11 with fail
     have HA1:=Lib.hid ((Below.refl w2.heap.size w2).alloc (Nat.le_refl _) (.cells #[.string x.path,.int .i64 x.kind,.string x.target,.int .i64 x.mt.mode,.int .i64 x.mt.uid,.int .i64 x.mt.gid,.string x.mt.user,.string x.mt.group,.int .i64 x.mt.second,.int .i64 x.mt.nano,.slice x.da x.data.length x.dcap] 26))
     have HBX:Hid ((w2.alloc (.cells #[.string x.path,.int .i64 x.kind,.string x.target,.int .i64 x.mt.mode,.int .i64 x.mt.uid,.int .i64 x.mt.gid,.string x.mt.user,.string x.mt.group,.int .i64 x.mt.second,.int .i64 x.mt.nano,.slice x.da x.data.length x.dcap] 26)).heap[w2.heap.size]?=some (.cells #[.string x.path,.int .i64 x.kind,.string x.target,.int .i64 x.mt.mode,.int .i64 x.mt.uid,.int .i64 x.mt.gid,.string x.mt.user,.string x.mt.group,.int .i64 x.mt.second,.int .i64 x.mt.nano,.slice x.da x.data.length x.dcap] 26 (0,0))):=Lib.hid (heap_alloc_new _ _)
     generalize w2.alloc (.cells #[.string x.path,.int .i64 x.kind,.string x.target,.int .i64 x.mt.mode,.int .i64 x.mt.uid,.int .i64 x.mt.gid,.string x.mt.user,.string x.mt.group,.int .i64 x.mt.second,.int .i64 x.mt.nano,.slice x.da x.data.length x.dcap] 26)=W at *
     have HBW2:=Lib.hid (HB2.out.trans (HA1.out.mono HB2.out.size))
     obtain ⟨c0,c1,c2,c3,c4,c5,c6,c7,c8,c9,c10⟩:=cells11 HBX.out
     have HA:=Lib.hid (HBW2.out.alloc HBW2.out.size (boxE2 x))
     have HWA:=Lib.hid ((Below.refl W.heap.size W).alloc (Nat.le_refl _) (boxE2 x))
     have HO3:=Lib.hid ((HO2.out.below HA1.out).below HWA.out)
     have HN3:=Lib.hid (entIn_out HX.out (HA1.out.trans (HWA.out.mono HA1.out.size)) HOW.out)
     go_wp2_with (at_builtin;refine wpList_app _ rfl (.tmp 35) (.tmp 37) 32 32 rfl _ _ rfl rfl (fun ty=>app_src _ 32 32 ty w.heap.size 26 i0 _ 11 136 Tryz.underlying32 HI.out.1 HI.out.2.1 HI.out.2.2.1 HI.out.2.2.2 rfl (by decide) _ _ acc'.length 1 _ _ HO3.out.1 (src_ent W _ _ _ Tryz.underlying32 x) (by unfold maxLen;omega) (by omega) HA.out.size) ?_;intro v3 w5 ho2 hg2 hv2;have HZ:=Lib.hid (And.intro ho2 (And.intro hg2 hv2.2));clear ho2 hg2 hv2)
     have HO4:=Lib.hid (HO3.out.app (m:=[x]) (fun z hz=>by rw [List.mem_singleton.1 hz];exact HN3.out) HZ.out.1 HZ.out.2.1 HZ.out.2.2)
     have HB4:=Lib.hid (below_app HA.out HZ.out.2.1 HO3.out.1 HA.out.size)
     obtain ⟨f2,rfl⟩:∃ f2,f=f2+1:=⟨f-1,by omega⟩
     go_wp2
     go_roundw
     case rel=>exact ⟨k+m,f2,acc++[y],acc'++[x],by omega,by go_num,by omega,by simp only [List.length_append,List.length_cons,List.length_nil];omega,HQ,Lib.hid (by rw [List.map_append,List.map_append,HBR.out];congr 1;simp only [List.map_cons,List.map_nil];rw [HX.out.1]),Lib.hid (fun z hz p hp=>by
      rcases List.mem_append.1 hz with h|h
      ·exact HPL.out z h p hp
      ·rw [List.mem_singleton.1 h] at hp;exact Nat.le_trans HB.out.size (HX.out.2.2 p hp)),HO4,HB4⟩
     case measure=>simp [intOf];omega
    ·have hq:(e0 != 0)=true:=by rw [bne_iff_ne];exact he
     have HQ:=Lib.hid (HQ3.out hsh hz _ _ _ hmo he)
     have HBF:=Lib.hid (HB2.out.alloc HB2.out.size (.cells #[.string x.path,.int .i64 x.kind,.string x.target,.int .i64 x.mt.mode,.int .i64 x.mt.uid,.int .i64 x.mt.gid,.string x.mt.user,.string x.mt.group,.int .i64 x.mt.second,.int .i64 x.mt.nano,.slice x.da x.data.length x.dcap] 26))
     have HOF:=Lib.hid (HO2.out.below ((Below.refl w2.heap.size w2).alloc (Nat.le_refl _) (.cells #[.string x.path,.int .i64 x.kind,.string x.target,.int .i64 x.mt.mode,.int .i64 x.mt.uid,.int .i64 x.mt.gid,.string x.mt.user,.string x.mt.group,.int .i64 x.mt.second,.int .i64 x.mt.nano,.slice x.da x.data.length x.dcap] 26)))
     clear HQ1 HQ2 HQ3 HQ4 HRNG hsh hz hmo he
     go_wp2
     go_ret3
     rw [HQ.out]
     exact ⟨_,acc',rfl,HOF.out,HBR.out,by omega,HPL.out,HBF.out⟩
open Go.Creel Go.RowKit
set_option maxRecDepth 100000 in
set_option maxHeartbeats 2000000 in
theorem SomeR_any (v : Value) (b : List UInt8) (w : World) (h : SliceC maxLen 1 ByteC w [v] b) (hbl : b.length ≤ 1048576) (hM : MaxOk w) (hE : ErrsOk w) (hT : Pow10 w) :
 Calls Tryz.prog 27 #[v] w (RetSome 26 w (someOf b)):=by
 obtain ⟨a,cap,hv,hcp⟩:=bytes_form h
 subst hv
 obtain ⟨i0,hi,hz0,hz1,hz2⟩:=info_parts info_entry2
 have HI:=Lib.hid (And.intro hi (And.intro hz0 (And.intro hz1 hz2)))
 have hs2:∀ (k:Nat),k<=b.length->∀ W:World,(Instr.slice 24 (.slice a b.length cap) (some (.int .i64 (k:Int))) none none).run Tryz.prog W = .ok (sliced a k b.length cap 1) W:=fun k hk W=>run_dropB W a b.length cap k hk hcp
 have HS2:=Lib.hid hs2
 have HDR:=Lib.hid (fun k (hk:k<=b.length)=>bytes_drop (i:=k) h hk)
 have HGET:=Lib.hid (fun (v2:Value) (b2:List UInt8) (W:World) (h2:SliceC maxLen 1 ByteC W [v2] b2) (hl:b2.length<=1048576) (hb:Below w.heap.size w W)=>MemO_any v2 b2 W h2 hl (hE.below hb) (hT.below hb))
 have HMID:=Lib.hid (fun k (hk:k+512<=b.length)=>bytes_mid (i:=k) (j:=k+512) h (by omega) hk)
 have HSO:Hid (someOf b=someGo b (b.length+1) 0 []):=Lib.hid rfl
 generalize someOf b=so at *
 clear h hM hE hT hi hz0 hz1 hz2 hs2
 go_enter Tryz.func27,Tryz.ntmps27
 go_wp2_with fail
 go_loopw [5,6,7,8,9] (fun u5 u6 _ _ _ wr=>∃ (k f:Nat) (acc acc':List Ent),k<=b.length/\u6 = .int .i64 (k:Int)/\b.length<=f+k/\acc.length*512<=k/\Hid (so=someGo b (f+1) k acc)/\Hid (acc'.map Ent.bare=acc.map Ent.bare)/\Hid (∀ x∈acc',∀ p,x.da=some p->w.heap.size<=p.block)/\Hid (OwnEnts 26 wr w.heap.size u5 acc')/\Hid (Below w.heap.size w wr)) (fun _ u6 _ _ _ _=>b.length-(intOf u6).toNat)
 case atStart=>exact ⟨0,b.length,[],[],by omega,rfl,by omega,by simp,HSO,Lib.hid rfl,Lib.hid (fun x hx=>absurd hx (by simp)),Lib.hid (OwnEnts.nil _ _ _),Lib.hid (Below.refl _ _)⟩
 case round =>
  obtain ⟨k,f,acc,acc',hk,rfl,hfk,hal,HSG,HBR,HPL,HOW,HB⟩:=hrel
  obtain ⟨vv,rfl⟩:∃ V:Value,V=u5:=⟨_,rfl⟩
  have hlen:acc'.length=acc.length:=bareE_len HBR.out
  obtain ⟨ak,ck,hsk,hcpk⟩:=bytes_form (HDR.out k hk)
  have hsl2:∀ W:World,(Instr.slice 24 (.slice a b.length cap) (some (.int .i64 (k:Int))) none none).run Tryz.prog W = .ok (.slice ak (b.drop k).length ck) W:=fun W=>by rw [<-hsk];exact HS2.out k hk W
  have HD:=HDR.out k hk
  rw [hsk] at HD
  obtain ⟨bk,hbk⟩:∃ bk,bk=b.drop k:=⟨_,rfl⟩
  have HQ1:=Lib.hid (fun h=>HSG.out.trans (someGo_short (b:=b) (f:=f) (k:=k) (acc:=acc) h))
  have HQ2:=Lib.hid (fun h h2=>HSG.out.trans (someGo_zero (b:=b) (f:=f) (k:=k) (acc:=acc) h h2))
  have HQ3:=Lib.hid (fun h h2 x n e h3 he=>HSG.out.trans (someGo_bad (b:=b) (f:=f) (k:=k) (acc:=acc) h h2 (x:=x) (n:=n) (e:=e) h3 he))
  have HQ4:=Lib.hid (fun h h2 x n h3=>HSG.out.trans (someGo_step (b:=b) (f:=f) (k:=k) (acc:=acc) h h2 (x:=x) (n:=n) h3))
  have hbl2:bk.length+k=b.length:=by rw [hbk,List.length_drop];omega
  rw [<-hbk] at HQ1 HQ2 HQ3 HQ4 HD hsl2 hcpk
  have HBK:=Lib.hid hbk
  clear hsk hbk HSG
  by_cases hsh:bk.length<512
  ·have hd:decide (((k:Int)+512)<=(b.length:Int))=false:=by rw [decide_eq_false_iff_not];omega
   have HQ:=Lib.hid (HQ1.out hsh)
   clear HQ1 HQ2 HQ3 HQ4 hsh
   go_wp2
   go_ret3
   rw [HQ.out]
   exact ⟨_,acc',rfl,HOW.out,HBR.out,by omega,HPL.out,HB.out⟩
  ·have hd:decide (((k:Int)+512)<=(b.length:Int))=true:=by rw [decide_eq_true_iff];omega
   have hk5:k+512<=b.length:=by omega
   have hnum:((k:Int)+512)=((k+512:Nat):Int):=by omega
   have hwr:IntKind.i64.wrap ((k:Int)+512)=(k:Int)+512:=by rw [IntKind.wrap_i64];omega
   have hmid:=HMID.out k hk5
   rw [<-HBK.out,show k+512-k=512 by omega] at hmid
   have hck:¬ cap=k:=by omega
   have hmid2:SliceC maxLen 1 ByteC w [.slice (a.map (fun x=>x.add k)) 512 (cap-k)] (bk.take 512):=by
    have h9:=hmid
    unfold sliced at h9
    rw [if_neg hck,show k+512-k=512 by omega,Nat.mul_one] at h9
    exact h9
   have hn1:(0:Int)<=(k:Int)+512:=by omega
   have hn2:(k:Int)+512<=(cap:Int):=by omega
   have hn3:((k:Int)+512).toNat=k+512:=by omega
   have hn4:k<=k+512:=by omega
   have hn5:k+512-k=512:=by omega
   have hbd:∀ n,Below wr.heap.size wr (wr.drewN n):=fun n=>⟨rfl,rfl,rfl,Nat.le_refl _,fun _ _=>rfl⟩
   have hcv:=fun n=>conv (wr.drewN n) (bytesBelow hmid2 (HB.out.trans ((hbd n).mono HB.out.size)))
   have HBD:=Lib.hid hbd
   have HZR:=Lib.hid (fun n=>zeros_any 512 (wr.drewN n) (by decide) (by decide))
   have hzs:zerosS (512:Int).toNat=ofL (zeroN 512):=rfl
   rw [hzs] at HZR
   clear hmid hmid2 hnum hbd hzs
   by_cases hz:bk.take 512=zeroN 512
   ·have HQ:=Lib.hid (HQ2.out hsh hz)
    have hcmp:=sofs_eq hz
    clear HQ1 HQ2 HQ3 HQ4 hsh hz
    go_upto_region 4 with fail
    go_quiet ((go_at_call 60;exact quiet_same (HZR.out _)))
    go_wp2
    go_ret3
    rw [HQ.out]
    exact ⟨_,acc',rfl,HOW.out.below (HBD.out _),HBR.out,by omega,HPL.out,HB.out.trans ((HBD.out _).mono HB.out.size)⟩
   ·have hcmp:=sofs_ne hz
    go_upto_region 4 with fail
    go_quiet ((go_at_call 60;exact quiet_same (HZR.out _)))
    have HBQ:=Lib.hid (HB.out.trans ((HBD.out nq).mono HB.out.size))
    have HOQ:=Lib.hid (HOW.out.below (HBD.out nq))
    clear HZR hcv hcmp HBD
    generalize wr.drewN nq=wq at *
    have HDW:=Lib.hid (bytesBelow HD HBQ.out)
    have HCALL:=Lib.hid (HGET.out (.slice ak bk.length ck) bk wq HDW.out (by omega) HBQ.out)
    obtain ⟨⟨y,n,e0⟩,hmo⟩:∃ q,memOf bk=q:=⟨_,rfl⟩
    have HRNG:=Lib.hid (fun he=>memOf_rng (b:=bk) he)
    rw [hmo] at HCALL HRNG
    simp only at HRNG
    go_wp2_with fail
    refine HCALL.out.mono ?_
    rintro e w2 ⟨x,rfl,hx,hb2⟩
    have HB2:=Lib.hid (HBQ.out.trans (hb2.mono HBQ.out.size))
    have HX:=Lib.hid hx
    have HBB:=Lib.hid hb2
    have HO2:=Lib.hid (HOQ.out.below hb2)
    clear hx hb2 HCALL
    by_cases he:e0=0
    ·subst he
     obtain ⟨m,hm,hm1,hm2⟩:=HRNG.out rfl
     (try simp only at hm)
     subst hm
     have HQ:=Lib.hid (HQ4.out hsh hz _ _ hmo)
     clear HQ1 HQ2 HQ3 HQ4 HRNG hsh hz hmo
     go_upto_region 9 with fail
     have HA1:=Lib.hid ((Below.refl w2.heap.size w2).alloc (Nat.le_refl _) (.cells #[.string x.path,.int .i64 x.kind,.string x.target,.int .i64 x.mt.mode,.int .i64 x.mt.uid,.int .i64 x.mt.gid,.string x.mt.user,.string x.mt.group,.int .i64 x.mt.second,.int .i64 x.mt.nano,.slice x.da x.data.length x.dcap] 26))
     have HBX:Hid ((w2.alloc (.cells #[.string x.path,.int .i64 x.kind,.string x.target,.int .i64 x.mt.mode,.int .i64 x.mt.uid,.int .i64 x.mt.gid,.string x.mt.user,.string x.mt.group,.int .i64 x.mt.second,.int .i64 x.mt.nano,.slice x.da x.data.length x.dcap] 26)).heap[w2.heap.size]?=some (.cells #[.string x.path,.int .i64 x.kind,.string x.target,.int .i64 x.mt.mode,.int .i64 x.mt.uid,.int .i64 x.mt.gid,.string x.mt.user,.string x.mt.group,.int .i64 x.mt.second,.int .i64 x.mt.nano,.slice x.da x.data.length x.dcap] 26 (0,0))):=Lib.hid (heap_alloc_new _ _)
     generalize w2.alloc (.cells #[.string x.path,.int .i64 x.kind,.string x.target,.int .i64 x.mt.mode,.int .i64 x.mt.uid,.int .i64 x.mt.gid,.string x.mt.user,.string x.mt.group,.int .i64 x.mt.second,.int .i64 x.mt.nano,.slice x.da x.data.length x.dcap] 26)=W at *
     have HBW2:=Lib.hid (HB2.out.trans (HA1.out.mono HB2.out.size))
     obtain ⟨c0,c1,c2,c3,c4,c5,c6,c7,c8,c9,c10⟩:=cells11 HBX.out
     have HA:=Lib.hid (HBW2.out.alloc HBW2.out.size (boxE2 x))
     have HWA:=Lib.hid ((Below.refl W.heap.size W).alloc (Nat.le_refl _) (boxE2 x))
     have HO3:=Lib.hid ((HO2.out.below HA1.out).below HWA.out)
     have HN3:=Lib.hid (entIn_out HX.out (HA1.out.trans (HWA.out.mono HA1.out.size)) HOQ.out)
     go_wp2_with (at_builtin;refine wpList_app _ rfl (.tmp 38) (.tmp 40) 32 32 rfl _ _ rfl rfl (fun ty=>app_src _ 32 32 ty w.heap.size 26 i0 _ 11 136 Tryz.underlying32 HI.out.1 HI.out.2.1 HI.out.2.2.1 HI.out.2.2.2 rfl (by decide) _ _ acc'.length 1 _ _ HO3.out.1 (src_ent W _ _ _ Tryz.underlying32 x) (by unfold maxLen;omega) (by omega) HA.out.size) ?_;intro v3 w5 ho2 hg2 hv2;have HZ:=Lib.hid (And.intro ho2 (And.intro hg2 hv2.2));clear ho2 hg2 hv2)
     have HO4:=Lib.hid (HO3.out.app (m:=[x]) (fun z hz=>by rw [List.mem_singleton.1 hz];exact HN3.out) HZ.out.1 HZ.out.2.1 HZ.out.2.2)
     have HB4:=Lib.hid (below_app HA.out HZ.out.2.1 HO3.out.1 HA.out.size)
     obtain ⟨f2,rfl⟩:∃ f2,f=f2+1:=⟨f-1,by omega⟩
     go_wp2
     go_roundw
     case rel=>exact ⟨k+m,f2,acc++[y],acc'++[x],by omega,by go_num,by omega,by simp only [List.length_append,List.length_cons,List.length_nil];omega,HQ,Lib.hid (by rw [List.map_append,List.map_append,HBR.out];congr 1;simp only [List.map_cons,List.map_nil];rw [HX.out.1]),Lib.hid (fun z hz p hp=>by
      rcases List.mem_append.1 hz with h|h
      ·exact HPL.out z h p hp
      ·rw [List.mem_singleton.1 h] at hp;exact Nat.le_trans HBQ.out.size (HX.out.2.2 p hp)),HO4,HB4⟩
     case measure=>simp [intOf];omega
    ·have hq:(e0 != 0)=true:=by rw [bne_iff_ne];exact he
     have HQ:=Lib.hid (HQ3.out hsh hz _ _ _ hmo he)
     have HBF:=Lib.hid (HB2.out.alloc HB2.out.size (.cells #[.string x.path,.int .i64 x.kind,.string x.target,.int .i64 x.mt.mode,.int .i64 x.mt.uid,.int .i64 x.mt.gid,.string x.mt.user,.string x.mt.group,.int .i64 x.mt.second,.int .i64 x.mt.nano,.slice x.da x.data.length x.dcap] 26))
     have HOF:=Lib.hid (HO2.out.below ((Below.refl w2.heap.size w2).alloc (Nat.le_refl _) (.cells #[.string x.path,.int .i64 x.kind,.string x.target,.int .i64 x.mt.mode,.int .i64 x.mt.uid,.int .i64 x.mt.gid,.string x.mt.user,.string x.mt.group,.int .i64 x.mt.second,.int .i64 x.mt.nano,.slice x.da x.data.length x.dcap] 26)))
     clear HQ1 HQ2 HQ3 HQ4 HRNG hsh hz hmo he
     go_wp2
     go_ret3
     rw [HQ.out]
     exact ⟨_,acc',rfl,HOF.out,HBR.out,by omega,HPL.out,HBF.out⟩
end Go.Proofs.YtaffgndickdbiaaGreatDoor
