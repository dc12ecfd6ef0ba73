/-
  Texts: PathCheck, PathFault, EntSpec, EntAll, HeadN, Recs, RecsOwn, MemSpec, Zeros, Field, Power.
-/
import Derived.Test.YtaffgndickdbiaaGreatDoorQ04
import Derived.Test.YtaffgndickdbiaaGreatDoorQ03
set_option linter.unusedVariables false
set_option linter.unusedSimpArgs false
set_option linter.unusedSectionVars false
namespace Go.Creel
def badPart (p : ByteArray) : Bool := decide (p.size = 0) || decide (p = ofL [46]) || decide (p = ofL [46,46])
def pathFault (s : ByteArray) : Int :=
 if s.size<1\/400<s.size then 1
 else if hasB s 0=true then 3
 else if (partsS 47 s).any badPart=true then 9 else 0
theorem pathFault_size {s : ByteArray} (h : s.size < 1 ∨ 400 < s.size) : pathFault s = 1 := by unfold pathFault; rw [if_pos h]
theorem pathFault_form {s : ByteArray} (h : ¬ (s.size < 1 ∨ 400 < s.size)) (h2 : hasB s 0 = true) : pathFault s = 3 := by unfold pathFault; rw [if_neg h,if_pos h2]
theorem pathFault_part {s : ByteArray} (h : ¬ (s.size < 1 ∨ 400 < s.size)) (h2 : hasB s 0 = false) {k : Nat} (hk : k < (partsS 47 s).length) (hb : badPart (piece (partsS 47 s) k) = true) : pathFault s = 9 := by
 unfold pathFault
 rw [if_neg h,if_neg (by rw [h2];simp),if_pos]
 rw [List.any_eq_true]
 exact ⟨_,List.getElem_mem hk,by rw [<-piece_eq hk];exact hb⟩
theorem pathFault_ok {s : ByteArray} (h : ¬ (s.size < 1 ∨ 400 < s.size)) (h2 : hasB s 0 = false) (hb : ∀ k,k < (partsS 47 s).length → badPart (piece (partsS 47 s) k) = false) : pathFault s = 0 := by
 unfold pathFault
 rw [if_neg h,if_neg (by rw [h2];simp),if_neg]
 rw [Bool.not_eq_true,List.any_eq_false]
 intro x hx
 obtain ⟨k,hk,rfl⟩:=List.getElem_of_mem hx
 have:=hb k hk
 rw [piece_eq hk] at this
 rw [this];simp
theorem badPart_yes {p : ByteArray} (h : badPart p = true) : p.toList.isEmpty = true ∨ (p.toList.isEmpty = false ∧ (p.toList == (ofL [46]).toList) = true) ∨ (p.toList.isEmpty = false ∧ (p.toList == (ofL [46]).toList) = false ∧ (p.toList == (ofL [46,46]).toList) = true) := by
 unfold badPart at h
 by_cases h0:p.size=0
 ·exact .inl (empty_t h0)
 ·right
  by_cases h1:p=ofL [46]
  ·exact .inl ⟨empty_f h0,seq_t h1⟩
  ·right
   refine ⟨empty_f h0,seq_f h1,seq_t ?_⟩
   simpa [h0,h1] using h
theorem badPart_no {p : ByteArray} (h : badPart p = false) : p.toList.isEmpty = false ∧ (p.toList == (ofL [46]).toList) = false ∧ (p.toList == (ofL [46,46]).toList) = false := by
 unfold badPart at h
 simp only [Bool.or_eq_false_iff,decide_eq_false_iff_not] at h
 exact ⟨empty_f h.1.1,seq_f h.1.2,seq_f h.2⟩
theorem toList_ofL (l : List UInt8) : (ofL l).toList = l := by rw [Lib.toList_data,ofL_data]
end Go.Creel
namespace Go.Proofs.YtaffgndickdbiaaGreatDoor
open Go.Creel Go.RowKit
set_option maxRecDepth 100000 in
set_option maxHeartbeats 2000000 in
theorem PathCheck_any (s : ByteArray) (w : World) (hM : MaxOk w) (hs : s.size ≤ maxLen) :
 Calls Tryz.prog 82 #[.string s] w fun e w'=>e = .returned (.int .i64 (pathFault s))/\Below w.heap.size w w':=by
 unfold maxLen at hs
 by_cases h:s.size<1\/400<s.size
 ·have HF:=Lib.hid (pathFault_size h)
  rcases h with h|h
  ·go_enter Tryz.func82,Tryz.ntmps82
   go_wp2
   go_ret
   exact ⟨ret_i HF.out,Below.refl _ _⟩
  ·go_enter Tryz.func82,Tryz.ntmps82
   go_wp2
   go_ret
   exact ⟨ret_i HF.out,Below.refl _ _⟩
 ·have h1:1<=s.size:=by omega
  have h2:s.size<=400:=by omega
  have hix:=idx_has s 0
  cases hh:hasB s 0 with
  | true =>
    have HF:=Lib.hid (pathFault_form h hh)
    rw [hh] at hix
    clear h hh
    go_enter Tryz.func82,Tryz.ntmps82
    go_wp2_with (go_at_call 84;refine (IndexByte_any _ _ _).mono ?_;rintro e w' ⟨rfl,rfl⟩)
    go_ret
    exact ⟨ret_i HF.out,Below.refl _ _⟩
  | false =>
    rw [hh] at hix
    have HNO:=Lib.hid (fun k=>pathFault_part h hh (k:=k))
    have HYES:=Lib.hid (pathFault_ok h hh)
    have HM:=Lib.hid hM
    clear h hh hM
    go_enter Tryz.func82,Tryz.ntmps82
    go_wp2_with (first|(go_at_call 84;refine (IndexByte_any _ _ _).mono ?_;rintro e w' ⟨rfl,rfl⟩)|(go_at_call 145;fail))
    refine (SplitSlash_any s _ HM.out (by omega)).mono ?_
    rintro e w1 ⟨v,rfl,ho,hb⟩
    have hlen:(partsS 47 s).length<=s.size+1:=by
     have:=partsL_length 47 s.data.toList
     unfold partsS
     rw [List.length_map,Lib.size_eq s];exact this
    have hne:0<(partsS 47 s).length:=by
     unfold partsS
     rw [List.length_map];exact List.length_pos_iff.2 (partsL_ne _ _)
    generalize partsS 47 s=P at *
    have hform:=ho.form
    rcases hform with ⟨_,e0⟩|⟨g,cap,hv,hgB,hgw,hcap,hcapm⟩
    ·rw [e0] at hne;simp at hne
    ·subst hv
     have HO:=Lib.hid ho
     have HB:=Lib.hid hb
     clear ho hb hne hgB hgw
     go_wp2
     go_loop [4,19] (fun _ i=>∃ k:Nat,k<=P.length/\i = .int .i64 k/\Hid (∀ j,j<k->badPart (piece P j)=false)) (fun _ i=>P.length-(intOf i).toNat)
     case atStart=>exact ⟨0,by omega,rfl,fun j hj=>absurd hj (by omega)⟩
     case round =>
      obtain ⟨k,hk,rfl,HD⟩:=hrel
      by_cases hlt:k<P.length
      ·have hc:=HO.out.cell hlt
       cases hbp:badPart (piece P k) with
       | true =>
         have HF:=Lib.hid (HNO.out k hlt hbp)
         have hcase:=badPart_yes hbp
         clear hbp
         generalize piece P k=p at *
         rw [toList_ofL,toList_ofL] at hcase
         rcases hcase with e1|⟨e1,e2⟩|⟨e1,e2,e3⟩
         all_goals
          go_wp2
          go_ret
          exact ⟨ret_i HF.out,HB.out⟩
       | false =>
         obtain ⟨e1,e2,e3⟩:=badPart_no hbp
         rw [toList_ofL] at e2 e3
         have HBP:=Lib.hid hbp
         clear hbp
         generalize hp:piece P k=p at *
         have HP:=Lib.hid hp
         clear hp
         go_wp2
         go_round
         case rel =>
          refine ⟨k+1,by omega,by go_num,fun j hj=>?_⟩
          by_cases e:j=k
          ·rw [e,HP.out];exact HBP.out
          ·exact HD.out j (by omega)
         case measure=>simp [intOf];omega
      ·obtain rfl:k=P.length:=by omega
       have HF:=Lib.hid (HYES.out HD.out)
       go_wp2
       go_ret
       exact ⟨ret_i HF.out,HB.out⟩
open Go.Creel Go.RowKit
set_option maxRecDepth 100000 in
set_option maxHeartbeats 2000000 in
theorem PathFault_any (s : ByteArray) (w : World) (hs : s.size ≤ maxLen) :
 Calls Tryz.prog 154 #[.string s] w fun e w'=>e = .returned (.int .i64 (pathFault s))/\Below w.heap.size w w':=by
 unfold maxLen at hs
 by_cases h:s.size<1\/400<s.size
 ·have HF:=Lib.hid (pathFault_size h)
  by_cases h0:s.size=0
  ·have he:=empty_t h0
   clear h h0
   go_enter Tryz.func154,Tryz.ntmps154
   go_wp2
   go_ret
   exact ⟨ret_i HF.out,Below.refl _ _⟩
  ·have he:=empty_f h0
   have h1:400<s.size:=by omega
   clear h h0
   go_enter Tryz.func154,Tryz.ntmps154
   go_wp2
   go_ret
   exact ⟨ret_i HF.out,Below.refl _ _⟩
 ·have h1:s.size<=400:=by omega
  have he:=empty_f (show ¬ s.size=0 by omega)
  cases hh:hasB s 0 with
  | true =>
    have HF:=Lib.hid (pathFault_form h hh)
    have HH:=Lib.hid hh
    clear h hh
    go_enter Tryz.func154,Tryz.ntmps154
    go_wp2_with (go_at_call 105;refine (has_any s 0 0 rfl _ (by unfold maxLen;omega)).mono ?_;rintro e w' ⟨rfl,rfl⟩;rw [HH.out])
    go_ret
    exact ⟨ret_i HF.out,Below.refl _ _⟩
  | false =>
    have HNO:=Lib.hid (fun k=>pathFault_part h hh (k:=k))
    have HYES:=Lib.hid (pathFault_ok h hh)
    have HH:=Lib.hid hh
    clear h hh
    go_enter Tryz.func154,Tryz.ntmps154
    go_wp2_with (first|(go_at_call 105;refine (has_any s 0 0 rfl _ (by unfold maxLen;omega)).mono ?_;rintro e w' ⟨rfl,rfl⟩;rw [HH.out])|(go_at_call 164;fail))
    refine (parts_any s 47 _ rfl _ (by omega)).mono ?_
    rintro e w1 ⟨v,rfl,ho,hb⟩
    have hlen:(partsS 47 s).length<=s.size+1:=by
     have:=partsL_length 47 s.data.toList
     unfold partsS
     rw [List.length_map,Lib.size_eq s];exact this
    have hne:0<(partsS 47 s).length:=by
     unfold partsS
     rw [List.length_map];exact List.length_pos_iff.2 (partsL_ne _ _)
    generalize partsS 47 s=P at *
    have hform:=ho.form
    rcases hform with ⟨_,e0⟩|⟨g,cap,hv,hgB,hgw,hcap,hcapm⟩
    ·rw [e0] at hne;simp at hne
    ·subst hv
     have HO:=Lib.hid ho
     have HB:=Lib.hid hb
     clear ho hb hne hgB hgw
     go_wp2
     go_loop [4,17] (fun _ i=>∃ k:Nat,k<=P.length/\i = .int .i64 k/\Hid (∀ j,j<k->badPart (piece P j)=false)) (fun _ i=>P.length-(intOf i).toNat)
     case atStart=>exact ⟨0,by omega,rfl,fun j hj=>absurd hj (by omega)⟩
     case round =>
      obtain ⟨k,hk,rfl,HD⟩:=hrel
      by_cases hlt:k<P.length
      ·have hc:=HO.out.cell hlt
       cases hbp:badPart (piece P k) with
       | true =>
         have HF:=Lib.hid (HNO.out k hlt hbp)
         have hcase:=badPart_yes hbp
         clear hbp
         generalize piece P k=p at *
         rw [toList_ofL,toList_ofL] at hcase
         rcases hcase with e1|⟨e1,e2⟩|⟨e1,e2,e3⟩
         all_goals
          go_wp2
          go_ret
          exact ⟨ret_i HF.out,HB.out⟩
       | false =>
         obtain ⟨e1,e2,e3⟩:=badPart_no hbp
         rw [toList_ofL] at e2 e3
         have HBP:=Lib.hid hbp
         clear hbp
         generalize hp:piece P k=p at *
         have HP:=Lib.hid hp
         clear hp
         go_wp2
         go_round
         case rel =>
          refine ⟨k+1,by omega,by go_num,fun j hj=>?_⟩
          by_cases e:j=k
          ·rw [e,HP.out];exact HBP.out
          ·exact HD.out j (by omega)
         case measure=>simp [intOf];omega
      ·obtain rfl:k=P.length:=by omega
       have HF:=Lib.hid (HYES.out HD.out)
       go_wp2
       go_ret
       exact ⟨ret_i HF.out,HB.out⟩
end Go.Proofs.YtaffgndickdbiaaGreatDoor
namespace Go.Creel
def entFaultN (p m kind : Int) (dl ts : Nat) (q : Int) (h : Bool) : Int :=
 if ¬ p=0 then p else if ¬ m=0 then m else if kind<1\/4<kind then 2
 else if (¬ kind=1/\0<dl)\/(¬ ts=0/\kind<3)\/(ts=0/\3<=kind) then 3
 else if 2000<dl\/400<ts then 1 else if kind=4 then q else if h=true then 3 else 0
def entFault (e : Ent) : Int := entFaultN (pathFault e.path) (metaFault e.mt) e.kind e.data.length e.target.size (pathFault e.target) (hasB e.target 0)
abbrev Ent.val (e : Ent) : Value := .agg #[.string e.path,.int .i64 e.kind,.string e.target,.int .i64 e.mt.mode,.int .i64 e.mt.uid,.int .i64 e.mt.gid,.string e.mt.user,.string e.mt.group,.int .i64 e.mt.second,.int .i64 e.mt.nano,.slice e.da e.data.length e.dcap]
open Go.RowKit
structure MetaRight (m : Meta) : Prop where
 mode:0<=m.mode/\m.mode<=4095
 uid:0<=m.uid/\m.uid<=1125899906842624
 gid:0<=m.gid/\m.gid<=1125899906842624
 user:m.user.size<=60
 group:m.group.size<=60
 user0:hasB m.user 0=false
 group0:hasB m.group 0=false
 second : -1099511627776<=m.second/\m.second<=1099511627776
 nano:0<=m.nano/\m.nano<=999999999
theorem metaRight {m : Meta} (h : metaFault m = 0) : MetaRight m := by
 unfold metaFault at h
 split at h
 ·cases h
 ·rename_i h1
  split at h
  ·cases h
  ·rename_i h2
   split at h
   ·cases h
   ·rename_i h3
    unfold timeFault at h
    split at h
    ·cases h
    ·rename_i h4
     have hu:hasB m.user 0=false:=by cases e:hasB m.user 0;rfl;exact absurd (.inl e) h3
     have hg:hasB m.group 0=false:=by cases e:hasB m.group 0;rfl;exact absurd (.inr e) h3
     exact ⟨by omega,by omega,by omega,by omega,by omega,hu,hg,by omega,by omega⟩
structure EntRight (x : Ent) : Prop where
 path:pathFault x.path=0
 pathSize:x.path.size<=400
 mt:MetaRight x.mt
 kind:1<=x.kind/\x.kind<=4
 data:x.data.length<=2000
 target:x.target.size<=400
 noData:x.kind≠1->x.data.length=0
 noTarget:x.kind<3->x.target.size=0
 hasTarget:3<=x.kind->x.target.size≠0
 link:x.kind=4->pathFault x.target=0
 sym:x.kind≠4->hasB x.target 0=false
theorem entRight {x : Ent} (h : entFault x = 0) : EntRight x := by
 unfold entFault entFaultN at h
 split at h
 ·rename_i h1;exact absurd h h1
 ·rename_i h1
  have hp:pathFault x.path=0:=Classical.not_not.1 h1
  have hps:x.path.size<=400:=by
   refine Classical.byContradiction fun e=>?_
   have:=pathFault_size (s:=x.path) (.inr (by omega))
   rw [hp] at this
   cases this
  split at h
  ·rename_i h2;exact absurd h h2
  ·rename_i h2
   split at h
   ·cases h
   ·rename_i h3
    split at h
    ·cases h
    ·rename_i h4
     split at h
     ·cases h
     ·rename_i h5
      have hk:x.kind=4->pathFault x.target=0:=fun e=>by rw [if_pos e] at h;exact h
      have hs:x.kind≠4->hasB x.target 0=false:=fun e=>by
       rw [if_neg e] at h
       cases e2:hasB x.target 0 with
       | false=>rfl
       | true=>rw [e2] at h;cases h
      exact ⟨hp,hps,metaRight (Classical.not_not.1 h2),by omega,by omega,by omega,fun e=>by omega,fun e=>by omega,fun e=>by omega,hk,hs⟩
open Go.RowKit
structure HeadN where
 nm:ByteArray
 px:ByteArray
 lk:ByteArray
 mode:Int
 uid:Int
 gid:Int
 size:Int
 time:Int
 typ:UInt8
 user:ByteArray
 group:ByteArray
def HeadN.cells (n : HeadN) : List Value := [.string n.nm,.string n.px,.string n.lk,.int .i64 n.mode,.int .i64 n.uid,.int .i64 n.gid,.int .i64 n.size,.int .i64 n.time,.int .u8 n.typ.toNat,.string n.user,.string n.group]
structure HeadN.Ok (N : Nat) (n : HeadN) : Prop where
 nm:n.nm.size<=N
 px:n.px.size<=N
 lk:n.lk.size<=N
 mode:i64 n.mode
 uid:i64 n.uid
 gid:i64 n.gid
 size:i64 n.size
 time:i64 n.time
 user:n.user.size<=N
 group:n.group.size<=N
open Go.RowKit
def HeadAt (w : World) (b : Nat) (n : HeadN) : Prop := w.cell? ⟨b,0,none⟩ = some (.string n.nm) ∧ w.cell? ⟨b,1,none⟩ = some (.string n.px) ∧ w.cell? ⟨b,2,none⟩ = some (.string n.lk) ∧ w.cell? ⟨b,3,none⟩ = some (.int .i64 n.mode) ∧ w.cell? ⟨b,4,none⟩ = some (.int .i64 n.uid) ∧ w.cell? ⟨b,5,none⟩ = some (.int .i64 n.gid) ∧ w.cell? ⟨b,6,none⟩ = some (.int .i64 n.size) ∧ w.cell? ⟨b,7,none⟩ = some (.int .i64 n.time) ∧ w.cell? ⟨b,8,none⟩ = some (.int .u8 n.typ.toNat) ∧ w.cell? ⟨b,9,none⟩ = some (.string n.user) ∧ w.cell? ⟨b,10,none⟩ = some (.string n.group)
abbrev headBox (n : HeadN) (t : TypeId) : Obj := .cells #[.string n.nm,.string n.px,.string n.lk,.int .i64 n.mode,.int .i64 n.uid,.int .i64 n.gid,.int .i64 n.size,.int .i64 n.time,.int .u8 n.typ.toNat,.string n.user,.string n.group] t
theorem headAt_box (w : World) (n : HeadN) (t : TypeId) : HeadAt (w.alloc (headBox n t)) w.heap.size n := by
 refine ⟨?_,?_,?_,?_,?_,?_,?_,?_,?_,?_,?_⟩<;>simp [World.cell?_alloc_new]
theorem HeadAt.lt {w : World} {b : Nat} {n : HeadN} (h : HeadAt w b n) : b < w.heap.size := World.block_lt_of_cell? w _ h.1
theorem HeadAt.below {w w' : World} {b B : Nat} {n : HeadN} (h : HeadAt w b n) (hb : Below B w w') (hlt : b < B) : HeadAt w' b n := by
 obtain ⟨h0,h1,h2,h3,h4,h5,h6,h7,h8,h9,h10⟩:=h
 exact ⟨(hb.cell (p:=⟨b,0,none⟩) hlt).trans h0,(hb.cell (p:=⟨b,1,none⟩) hlt).trans h1,(hb.cell (p:=⟨b,2,none⟩) hlt).trans h2,(hb.cell (p:=⟨b,3,none⟩) hlt).trans h3,(hb.cell (p:=⟨b,4,none⟩) hlt).trans h4,(hb.cell (p:=⟨b,5,none⟩) hlt).trans h5,(hb.cell (p:=⟨b,6,none⟩) hlt).trans h6,(hb.cell (p:=⟨b,7,none⟩) hlt).trans h7,(hb.cell (p:=⟨b,8,none⟩) hlt).trans h8,(hb.cell (p:=⟨b,9,none⟩) hlt).trans h9,(hb.cell (p:=⟨b,10,none⟩) hlt).trans h10⟩
theorem below_drawN {B : Nat} {a w : World} {n : Nat} (h : Below B a w) : Below B a (w.drewN n) := h.trans ⟨rfl,rfl,rfl,Nat.le_refl _,fun _ _ => rfl⟩
end Go.Creel
namespace Go.Proofs.YtaffgndickdbiaaGreatDoor
open Go.Creel Go.RowKit
abbrev HeadN.val' (n : HeadN) : Value := .agg #[.string n.nm,.string n.px,.string n.lk,.int .i64 n.mode,.int .i64 n.uid,.int .i64 n.gid,.int .i64 n.size,.int .i64 n.time,.int .u8 n.typ.toNat,.string n.user,.string n.group]
end Go.Proofs.YtaffgndickdbiaaGreatDoor
namespace Go.Creel
open Go.RowKit
def rk (l : List Rec) (k : Nat) : Rec := l.getD k ⟨ByteArray.empty,ByteArray.empty⟩
theorem recs_cases {N : Nat} {w : World} {v : Value} {l : List Rec} (h : SliceC N 2 (RecC N) w [v] l) : (∃ a cap,v = .slice a 0 cap ∧ l = []) ∨
 ∃ b off cap,v = .slice (some ⟨b,off,none⟩) l.length cap/\0<l.length/\l.length<=cap/\cap<=maxLen/\l.length<=N ∧
  ∀ i,i<l.length->(w.cell? ⟨b,off+i*2,none⟩=some (.string (rk l i).key)/\w.cell? ⟨b,off+i*2+1,none⟩=some (.string (rk l i).value))/\(rk l i).key.size<=N/\(rk l i).value.size<=N:=by
 obtain ⟨a,cap,hv,h1,h2,h3,_,h4⟩:=h
 simp only [List.cons.injEq,and_true] at hv
 by_cases hl:0<l.length
 ·obtain ⟨b,off,rfl,hc⟩:=h4 hl
  refine .inr ⟨b,off,cap,hv,hl,h1,h2,h3,fun i hi=>?_⟩
  obtain ⟨c,_,hcc,hE,hn⟩:=hc i hi
  have e0:=hcc 0 (by omega)
  have e1:=hcc 1 (by omega)
  rw [hE] at e0 e1
  have hr:rk l i=l[i]:=by simp [rk,List.getD_eq_getElem?_getD,List.getElem?_eq_getElem hi]
  rw [hr]
  exact ⟨⟨by simpa using e0,by simpa using e1⟩,hn⟩
 ·have:l=[]:=by
   cases l with
   | nil=>rfl
   | cons x r=>simp at hl
  subst this
  exact .inl ⟨a,cap,by simpa using hv,rfl⟩
open Go.RowKit
def Rec.cl (r : Rec) : List Value := [.string r.key,.string r.value]
theorem Rec.cl_len (r : Rec) : r.cl.length = 2 := rfl
theorem flatC_at : ∀ (l : List Rec) (k j : Nat),k < l.length → j < 2 → (l.flatMap Rec.cl)[k * 2 + j]? = (rk l k).cl[j]?
 | [],_,_,h,_=>absurd h (by simp)
 | x::r,0,j,_,hj=>by
   rw [List.flatMap_cons,Nat.zero_mul,Nat.zero_add,List.getElem?_append_left (by rw [Rec.cl_len];omega)]
   rfl
 | x::r,k+1,j,hk,hj=>by
   rw [List.flatMap_cons,List.getElem?_append_right (by rw [Rec.cl_len];omega),Rec.cl_len]
   have e:(k+1)*2+j-2=k*2+j:=by omega
   rw [e,flatC_at r k j (by simpa using hk) hj]
   rfl
def OwnRecs (t : TypeId) (w : World) (B : Nat) (v : Value) (l : List Rec) : Prop := w.ownsRow B t 2 v l.length (l.flatMap Rec.cl)
variable {t : TypeId} {w w' : World} {B : Nat} {v v' : Value} {l m : List Rec}
theorem OwnRecs.nil (t : TypeId) (w : World) (B : Nat) : OwnRecs t w B (.slice none 0 0) [] := World.ownsRow_nil w B t 2
theorem OwnRecs.below (h : OwnRecs t w B v l) (hb : Below w.heap.size w w') : OwnRecs t w' B v l := by
 refine ⟨h.1,?_⟩
 rcases h.2 with h0|⟨g,cap,cur,hv,hbg,hg,r⟩
 ·exact .inl h0
 ·refine .inr ⟨g,cap,cur,hv,hbg,?_,r⟩
  rw [hb.block g (Array.getElem?_eq_some_iff.1 hg).1]
  exact hg
theorem OwnRecs.form (h : OwnRecs t w B v l) : (v = .slice none 0 0 ∧ l = []) ∨ ∃ g cap,v = .slice (some ⟨g,0,none⟩) l.length cap ∧ B ≤ g ∧ g < w.heap.size ∧ l.length ≤ cap ∧ cap ≤ maxLen := by
 rcases h.2 with ⟨rfl,h0⟩|⟨g,cap,cur,rfl,hbg,hg,hnc,hcm,hcs,htake⟩
 ·exact .inl ⟨rfl,List.eq_nil_of_length_eq_zero h0⟩
 ·exact .inr ⟨g,cap,rfl,hbg,(Array.getElem?_eq_some_iff.1 hg).1,hnc,hcm⟩
theorem OwnRecs.recAt {g cap : Nat} (h : OwnRecs t w B (.slice (some ⟨g,0,none⟩) l.length cap) l) {k : Nat} (hk : k < l.length) :
 w.cell? ⟨g,k*2,none⟩=some (.string (rk l k).key)/\w.cell? ⟨g,k*2+1,none⟩=some (.string (rk l k).value):=by
 have c:=fun j hj=>(World.ownsRow.cellAt h (k*2+j) (by omega)).trans (flatC_at l k j hk hj)
 exact ⟨c 0 (by omega),c 1 (by omega)⟩
theorem rk_eq {l : List Rec} {k : Nat} (hk : k < l.length) : rk l k = l[k] := by simp [rk,List.getD_eq_getElem?_getD,List.getElem?_eq_getElem hk]
theorem OwnRecs.slice (h : OwnRecs t w B v l) (hl : l.length ≤ maxLen) (hz : ∀ r ∈ l,r.key.size ≤ maxLen ∧ r.value.size ≤ maxLen) : SliceC maxLen 2 (RecC maxLen) w [v] l := by
 rcases h.2 with ⟨rfl,h0⟩|⟨g,cap,cur,rfl,hbg,hg,hnc,hcm,hcs,htake⟩
 ·obtain rfl:=List.eq_nil_of_length_eq_zero h0
  exact ⟨none,0,rfl,by simp,by simp,by simp,fun _=>rfl,fun h=>absurd h (by simp)⟩
 ·refine ⟨some ⟨g,0,none⟩,cap,rfl,hnc,hcm,hl,(fun h=>by cases h),fun _=>⟨g,0,rfl,fun i hi=>⟨(l[i]).cl,rfl,fun j hj=>?_,rfl,hz _ (List.getElem_mem hi)⟩⟩⟩
  rw [Nat.zero_add,World.ownsRow.cellAt h _ (by omega),flatC_at l i j hi hj,rk_eq hi]
def RetRecs (t : TypeId) (w : World) (p : List Rec × Int) (e : Ending) (w' : World) : Prop := ∃ v,e = .returned (.tuple #[v,.int .i64 p.2]) ∧ OwnRecs t w' w.heap.size v p.1 ∧ Below w.heap.size w w'
theorem src_rec {P : Program} (w : World) (tx e' e : TypeId) (hk : P.underlying tx = some (.slice e')) (x : Rec) : Src P 2 tx (.slice (some ⟨w.heap.size,0,none⟩) 1 1) 1 ([x].flatMap Rec.cl) (w.alloc (.cells #[.string x.key,.string x.value] e)) := by
 refine Src.ofSlice _ hk ⟨w.heap.size,0,none⟩ 1 1 _ rfl (fun j u hu=>?_) (fun u hu=>?_)
 ·have hj:j<2:=by
   rcases Nat.lt_or_ge j 2 with h|h
   ·exact h
   ·rw [List.getElem?_eq_none (by simpa [Rec.cl] using h)] at hu;cases hu
  have e:(⟨w.heap.size,0,none⟩:Addr).add j=⟨w.heap.size,j,none⟩:=by unfold Addr.add;split<;>simp_all
  rw [e,World.cell?_alloc_new]
  simpa [Rec.cl] using hu
 ·simp [Rec.cl] at hu
  rcases hu with rfl|rfl<;>rfl
theorem OwnRecs.app {t : TypeId} {w' : World} {B : Nat} {v' : Value} {l m : List Rec} (ho : w'.ownsRow B t 2 v' (l.length + m.length) (l.flatMap Rec.cl ++ m.flatMap Rec.cl)) : OwnRecs t w' B v' (l ++ m) := by
 unfold OwnRecs;rw [List.length_append,List.flatMap_append];exact ho
theorem OwnRecs.form2 {t : TypeId} {w : World} {B : Nat} {v : Value} {l : List Rec} (h : OwnRecs t w B v l) : ∃ a cap,v = .slice a l.length cap ∧ cap ≤ maxLen ∧ (0 < l.length → ∃ g,a = some ⟨g,0,none⟩ ∧ l.length ≤ cap ∧ g < w.heap.size) := by
 rcases h.form with ⟨rfl,rfl⟩|⟨g,cap,rfl,_,h1,h2,h3⟩
 ·exact ⟨none,0,rfl,by simp,fun h=>absurd h (by simp)⟩
 ·exact ⟨_,cap,rfl,h3,fun _=>⟨g,rfl,h2,h1⟩⟩
end Go.Creel
namespace Go.Proofs.YtaffgndickdbiaaGreatDoor
open Go.Creel Go.RowKit
theorem info_record : (Tryz.prog.info? 85).map (fun i => (i.zero,i.size,i.bytes)) = some (some (.agg #[.string ⟨#[]⟩,.string ⟨#[]⟩]),2,32) := by kernel_rfl
end Go.Proofs.YtaffgndickdbiaaGreatDoor
namespace Go.Creel
open Go.RowKit
abbrev kGid : ByteArray := ⟨#[103,105,100]⟩
abbrev kGname : ByteArray := ⟨#[103,110,97,109,101]⟩
abbrev kLink : ByteArray := ⟨#[108,105,110,107,112,97,116,104]⟩
abbrev kMtime : ByteArray := ⟨#[109,116,105,109,101]⟩
abbrev kPath : ByteArray := ⟨#[112,97,116,104]⟩
abbrev kUid : ByteArray := ⟨#[117,105,100]⟩
abbrev kUname : ByteArray := ⟨#[117,110,97,109,101]⟩
abbrev sLong : ByteArray := ⟨#[64,108,111,110,103]⟩
def itoaB (n : Int) : ByteArray := ofL (Lib.itoa n)
def recNum (k : ByteArray) (n m : Int) : List Rec := if m < n then [⟨k,itoaB n⟩] else []
def recText1 (k s : ByteArray) (m : Nat) : List Rec := if m < s.size then [⟨k,s⟩] else []
def hidNum (n m : Int) : Int := if m < n then 0 else n
def hidText (s : ByteArray) (m : Nat) (i : ByteArray) : ByteArray := if m < s.size then i else s
def timeOdd (m : Meta) : Prop := 0 < m.nano ∨ m.second < 0 ∨ 8589934591 < m.second
instance (m : Meta) : Decidable (timeOdd m) := by unfold timeOdd; infer_instance
def recTime (m : Meta) : List Rec := if timeOdd m then [⟨kMtime,(timeText m.second m.nano).1⟩] else []
def hidTime (m : Meta) : Int := if timeOdd m then 0 else m.second
noncomputable def recPath (s : ByteArray) : List Rec := if (cutTwo s).2.2 = 0 then [] else [⟨kPath,s⟩]
noncomputable def hidPath (s : ByteArray) : ByteArray := if (cutTwo s).2.2 = 0 then (cutTwo s).2.1 else sLong
noncomputable def memRecs (x : Ent) : List Rec :=
 recNum kGid x.mt.gid 2097151++recText1 kGname x.mt.group 31++recText1 kLink x.target 100++recTime x.mt++recPath x.path++recNum kUid x.mt.uid 2097151++recText1 kUname x.mt.user 31
def kindT (k : Int) : UInt8 := if k = 1 then 48 else if k = 2 then 53 else if k = 3 then 50 else 49
noncomputable def memHead (x : Ent) : HeadN :=
 ⟨hidPath x.path,(cutTwo x.path).1,hidText x.target 100 sLong,x.mt.mode,hidNum x.mt.uid 2097151,hidNum x.mt.gid 2097151,x.data.length,hidTime x.mt,kindT x.kind,hidText x.mt.user 31 ByteArray.empty,hidText x.mt.group 31 ByteArray.empty⟩
noncomputable def recordsOf (x : Ent) : List Rec × Int := if entFault x = 0 then (memRecs x,0) else ([],entFault x)
def headZ : HeadN := ⟨ByteArray.empty,ByteArray.empty,ByteArray.empty,0,0,0,0,0,0,ByteArray.empty,ByteArray.empty⟩
noncomputable def mHeadOf (x : Ent) : HeadN × Int := if entFault x = 0 then (memHead x,0) else (headZ,entFault x)
theorem recordsOf_ok {x : Ent} (h : entFault x = 0) : recordsOf x = (memRecs x,0) := if_pos h
theorem recordsOf_bad {x : Ent} (h : ¬ entFault x = 0) : recordsOf x = ([],entFault x) := if_neg h
theorem mHeadOf_ok {x : Ent} (h : entFault x = 0) : mHeadOf x = (memHead x,0) := if_pos h
theorem mHeadOf_bad {x : Ent} (h : ¬ entFault x = 0) : mHeadOf x = (headZ,entFault x) := if_neg h
theorem recNum_len (k : ByteArray) (n m : Int) : (recNum k n m).length ≤ 1 := by unfold recNum; split <;> simp
theorem recText1_len (k s : ByteArray) (m : Nat) : (recText1 k s m).length ≤ 1 := by unfold recText1; split <;> simp
theorem recTime_len (m : Meta) : (recTime m).length ≤ 1 := by unfold recTime; split <;> simp
theorem recPath_len (s : ByteArray) : (recPath s).length ≤ 1 := by unfold recPath; split <;> simp
theorem more_len {a b : List Rec} {n : Nat} (h : a.length ≤ n) (hb : b.length ≤ 1) : (a ++ b).length ≤ n + 1 := by rw [List.length_append]; omega
theorem recNum_yes {k : ByteArray} {n m : Int} (h : m < n) : recNum k n m = [⟨k,itoaB n⟩] ∧ hidNum n m = 0 := ⟨if_pos h,if_pos h⟩
theorem recNum_no {k : ByteArray} {n m : Int} (h : ¬ m < n) : recNum k n m = [] ∧ hidNum n m = n := ⟨if_neg h,if_neg h⟩
theorem recText1_yes {k s i : ByteArray} {m : Nat} (h : m < s.size) : recText1 k s m = [⟨k,s⟩] ∧ hidText s m i = i := ⟨if_pos h,if_pos h⟩
theorem recText1_no {k s i : ByteArray} {m : Nat} (h : ¬ m < s.size) : recText1 k s m = [] ∧ hidText s m i = s := ⟨if_neg h,if_neg h⟩
theorem repeatL_one (c : UInt8) (n : Nat) : Lib.repeatL [c] n = List.replicate n c := by
 induction n with
 | zero=>rfl
 | succ n ih=>simp [Lib.repeatL,List.replicate_succ,ih]
def zerosS (n : Nat) : ByteArray := ofL (List.replicate n 0)
theorem zerosS_size (n : Nat) : (zerosS n).size = n := by simp [zerosS,ofL_size]
theorem zerosS_succ (n : Nat) : zerosS n ++ ofL [0] = zerosS (n + 1) := by
 unfold zerosS
 rw [ofL_append,List.replicate_succ']
end Go.Creel
namespace Go.Proofs.YtaffgndickdbiaaGreatDoor
open Go.Creel Go.RowKit
theorem Repeat0_any (c : Int) (w : World) (h0 : 0 ≤ c) (h1 : c ≤ 1000000) :
 Calls Tryz.prog 98 #[.string ⟨#[0]⟩,.int .i64 c] w fun e w'=>e = .returned (.string (zerosS c.toNat))/\Below w.heap.size w w':=by
 obtain ⟨n,rfl⟩:=Int.eq_ofNat_of_zero_le h0
 have:=Tryz.strings_Repeat ⟨#[0]⟩ n w (by omega) (by show 1*n<=_;omega)
 refine this.mono ?_
 rintro e w' ⟨rfl,hb⟩
 refine ⟨?_,hb⟩
 show Ending.returned (.string ⟨(Lib.repeatL [0] n).toArray⟩)=_
 rw [repeatL_one]
 rfl
set_option maxRecDepth 100000 in
theorem zeros_any (c : Int) (w : World) (h0 : 0 ≤ c) (h1 : c ≤ 1000000) :
 Calls Tryz.prog 60 #[.int .i64 c] w fun e w'=>e = .returned (.string (zerosS c.toNat))/\w=w':=by
 obtain ⟨n,rfl⟩:=Int.eq_ofNat_of_zero_le h0
 rw [Int.toNat_natCast]
 have hn:n<=1000000:=by omega
 clear h0 h1
 go_enter Tryz.func60,Tryz.ntmps60
 go_wp2
 go_loop [3,4] (fun s i=>∃ k:Nat,k<=n/\i = .int .i64 k/\s = .string (zerosS k)) (fun _ i=>n-(intOf i).toNat)
 case atStart=>exact ⟨0,by omega,rfl,rfl⟩
 case round =>
  obtain ⟨k,hk,rfl,rfl⟩:=hrel
  by_cases hlt:k<n
  ·have HS:=Lib.hid (zerosS_succ k)
   have hz:(zerosS k).size<=1000000:=by rw [zerosS_size];omega
   generalize zerosS k=s at *
   go_wp2
   go_round
   case rel=>exact ⟨k+1,by omega,by go_num,congrArg Value.string HS.out⟩
   case measure=>simp [intOf];omega
  ·obtain rfl:k=n:=by omega
   go_wp2
   go_ret
   exact ⟨rfl,rfl⟩
end Go.Proofs.YtaffgndickdbiaaGreatDoor
namespace Go.Creel
def fieldText (s : ByteArray) (width : Int) (whole : Bool) : ByteArray × Int :=
 if width<1\/512<width then (ByteArray.empty,4)
 else if width<s.size\/(whole=false/\width=s.size) then (ByteArray.empty,1)
 else if hasB s 0=true then (ByteArray.empty,3)
 else (s++zerosS (width.toNat-s.size),0)
end Go.Creel
namespace Go.Proofs.YtaffgndickdbiaaGreatDoor
open Go.Creel Go.RowKit
set_option maxRecDepth 100000 in
set_option maxHeartbeats 1000000 in
theorem FieldWrite_any (s : ByteArray) (width : Int) (whole : Bool) (w : World) (hs : s.size ≤ maxLen) (hw : i64 width) :
 Calls Tryz.prog 96 #[.string s,.int .i64 width,.bool whole] w fun e w'=>e = .returned (.tuple #[.string (fieldText s width whole).1,.int .i64 (fieldText s width whole).2])/\Below w.heap.size w w':=by
 unfold maxLen at hs
 unfold i64 at hw
 by_cases h1:width<1\/512<width
 ·have HF:=Lib.hid (show fieldText s width whole=(ByteArray.empty,4) by unfold fieldText;rw [if_pos h1])
  have HN:=Lib.hid h1
  rcases h1 with h1|h1
  ·have hd:decide (width<1)=true:=by simpa using h1
   go_enter Tryz.func96,Tryz.ntmps96
   go_wp2
   go_ret2
   exact ⟨ret_si HF.out,Below.refl _ _⟩
  ·go_enter Tryz.func96,Tryz.ntmps96
   go_wp2
   go_ret2
   exact ⟨ret_si HF.out,Below.refl _ _⟩
 ·have a1:1<=width:=by omega
  have a2:width<=512:=by omega
  by_cases h2:width<s.size\/(whole=false/\width=s.size)
  ·have HF:=Lib.hid (show fieldText s width whole=(ByteArray.empty,1) by unfold fieldText;rw [if_neg h1,if_pos h2])
   clear h1
   cases whole with
   | true =>
     have h3:width<s.size:=by simpa using h2
     clear h2
     go_enter Tryz.func96,Tryz.ntmps96
     go_wp2
     go_ret2
     exact ⟨ret_si HF.out,Below.refl _ _⟩
   | false =>
     have h3:width-1<s.size:=by rcases h2 with h|⟨_,h⟩<;>omega
     clear h2
     go_enter Tryz.func96,Tryz.ntmps96
     go_wp2
     go_ret2
     exact ⟨ret_si HF.out,Below.refl _ _⟩
  ·have hix:=idx_has s 0
   cases hh:hasB s 0 with
   | true =>
     have HF:=Lib.hid (show fieldText s width whole=(ByteArray.empty,3) by unfold fieldText;rw [if_neg h1,if_neg h2,if_pos hh])
     rw [hh] at hix
     clear h1 hh
     cases whole with
     | true =>
       have h3:(s.size:Int)<=width:=by have:=h2;simp at this;omega
       clear h2
       go_enter Tryz.func96,Tryz.ntmps96
       go_wp2_with (go_at_call 84;refine (IndexByte_any _ _ _).mono ?_;rintro e w' ⟨rfl,rfl⟩)
       go_ret2
       exact ⟨ret_si HF.out,Below.refl _ _⟩
     | false =>
       have h3:(s.size:Int)<=width-1:=by have:=h2;simp at this;omega
       clear h2
       go_enter Tryz.func96,Tryz.ntmps96
       go_wp2_with (go_at_call 84;refine (IndexByte_any _ _ _).mono ?_;rintro e w' ⟨rfl,rfl⟩)
       go_ret2
       exact ⟨ret_si HF.out,Below.refl _ _⟩
   | false =>
     have HF:=Lib.hid (show fieldText s width whole=(s++zerosS (width.toNat-s.size),0) by unfold fieldText;rw [if_neg h1,if_neg h2,if_neg (by rw [hh];simp)])
     rw [hh] at hix
     have hz:(zerosS (width.toNat-s.size)).size<=512:=by rw [zerosS_size];omega
     clear h1 hh
     cases whole with
     | true =>
       have h3:(s.size:Int)<=width:=by have:=h2;simp at this;omega
       clear h2
       go_enter Tryz.func96,Tryz.ntmps96
       go_wp2_with (first|(go_at_call 84;refine (IndexByte_any _ _ _).mono ?_;rintro e w' ⟨rfl,rfl⟩)|(go_at_call 98;refine (Repeat0_any _ _ (by omega) (by omega)).mono ?_;rintro e w' ⟨rfl,hb⟩;have HB:=Lib.hid hb;clear hb))
       go_ret2
       exact ⟨ret_si HF.out,HB.out⟩
     | false =>
       have h3:(s.size:Int)<=width-1:=by have:=h2;simp at this;omega
       clear h2
       go_enter Tryz.func96,Tryz.ntmps96
       go_wp2_with (first|(go_at_call 84;refine (IndexByte_any _ _ _).mono ?_;rintro e w' ⟨rfl,rfl⟩)|(go_at_call 98;refine (Repeat0_any _ _ (by omega) (by omega)).mono ?_;rintro e w' ⟨rfl,hb⟩;have HB:=Lib.hid hb;clear hb))
       go_ret2
       exact ⟨ret_si HF.out,HB.out⟩
set_option maxRecDepth 100000 in
set_option maxHeartbeats 1000000 in
theorem FieldText_any (s : ByteArray) (width : Int) (whole : Bool) (w : World) (hs : s.size ≤ maxLen) (hw : i64 width) :
 Calls Tryz.prog 107 #[.string s,.int .i64 width,.bool whole] w fun e w'=>e = .returned (.tuple #[.string (fieldText s width whole).1,.int .i64 (fieldText s width whole).2])/\w=w':=by
 have hs':=hs
 unfold maxLen at hs
 unfold i64 at hw
 by_cases h1:width<1\/512<width
 ·have HF:=Lib.hid (show fieldText s width whole=(ByteArray.empty,4) by unfold fieldText;rw [if_pos h1])
  rcases h1 with h1|h1
  ·have hd:decide (width<1)=true:=by simpa using h1
   go_enter Tryz.func107,Tryz.ntmps107
   go_wp2
   go_ret2
   exact ⟨ret_si HF.out,rfl⟩
  ·go_enter Tryz.func107,Tryz.ntmps107
   go_wp2
   go_ret2
   exact ⟨ret_si HF.out,rfl⟩
 ·have a1:1<=width:=by omega
  have a2:width<=512:=by omega
  by_cases h2:width<s.size\/(whole=false/\width=s.size)
  ·have HF:=Lib.hid (show fieldText s width whole=(ByteArray.empty,1) by unfold fieldText;rw [if_neg h1,if_pos h2])
   clear h1
   by_cases h3:width<s.size
   ·clear h2
    go_enter Tryz.func107,Tryz.ntmps107
    go_wp2
    go_ret2
    exact ⟨ret_si HF.out,rfl⟩
   ·obtain ⟨rfl,h4⟩:whole=false/\width=s.size:=by rcases h2 with h|h;exact absurd h h3;exact h
    have h5:((s.size:Int)==width)=true:=by rw [beq_iff_eq,h4]
    clear h2 h4
    go_enter Tryz.func107,Tryz.ntmps107
    go_wp2
    go_ret2
    exact ⟨ret_si HF.out,rfl⟩
  ·have h3:(s.size:Int)<=width:=by omega
   have h4:whole=true\/((s.size:Int)==width)=false:=by
    cases whole with
    | true=>exact .inl rfl
    | false=>right;rw [beq_eq_false_iff_ne];intro e;exact h2 (.inr ⟨rfl,e.symm⟩)
   have hz:(zerosS (width.toNat-s.size)).size<=512:=by rw [zerosS_size];omega
   cases hh:hasB s 0 with
   | true =>
     have HF:=Lib.hid (show fieldText s width whole=(ByteArray.empty,3) by unfold fieldText;rw [if_neg h1,if_neg h2,if_pos hh])
     clear h1 h2
     rcases h4 with rfl|h4
     all_goals
      go_enter Tryz.func107,Tryz.ntmps107
      go_wp2_with (go_at_call 105;refine (has_any _ 0 0 rfl _ hs').mono ?_;rintro e w' ⟨rfl,rfl⟩)
      all_goals (go_ret2;exact ⟨ret_si HF.out,rfl⟩)
   | false =>
     have HF:=Lib.hid (show fieldText s width whole=(s++zerosS (width.toNat-s.size),0) by unfold fieldText;rw [if_neg h1,if_neg h2,if_neg (by rw [hh];simp)])
     clear h1 h2
     rcases h4 with rfl|h4
     all_goals
      go_enter Tryz.func107,Tryz.ntmps107
      go_wp2_with (first|(go_at_call 105;refine (has_any _ 0 0 rfl _ hs').mono ?_;rintro e w' ⟨rfl,rfl⟩)|(go_at_call 60;refine (zeros_any _ _ (by omega) (by omega)).mono ?_;rintro e w' ⟨rfl,rfl⟩))
      all_goals (go_ret2;exact ⟨ret_si HF.out,rfl⟩)
open Go.Creel Go.RowKit
set_option maxRecDepth 100000 in
set_option maxHeartbeats 400000 in
theorem power_any (m : Nat) (w : World) (h : m ≤ 20) :
 Calls Tryz.prog 206 #[.int .i64 m] w fun e w'=>e = .returned (.int .i64 ((8 ^ m:Nat):Int))/\w=w':=by
 go_enter Tryz.func206,Tryz.ntmps206
 go_wp2
 go_loop [3,4] (fun n i=>∃ k:Nat,k<=m/\i = .int .i64 k/\n = .int .i64 ((8 ^ k:Nat):Int)) (fun _ i=>m-(intOf i).toNat)
 case atStart=>exact ⟨0,by omega,rfl,rfl⟩
 case round =>
  obtain ⟨k,hk,rfl,rfl⟩:=hrel
  by_cases hlt:k<m
  ·have h1:8 ^ k<=8 ^ 19:=Nat.pow_le_pow_right (by decide) (by omega)
   have HS:=Lib.hid (show 8 ^ (k+1)=8 ^ k*8 from Nat.pow_succ _ _)
   generalize 8 ^ k=p at *
   have h2:p<=144115188075855872:=by simpa using h1
   clear h1
   go_wp2
   go_round
   case rel=>exact ⟨k+1,by omega,by go_num,by rw [HS.out];go_num⟩
   case measure=>simp [intOf];omega
  ·have hk':k=m:=by omega
   subst hk'
   go_wp2
   go_ret
   exact ⟨rfl,rfl⟩
end Go.Proofs.YtaffgndickdbiaaGreatDoor
