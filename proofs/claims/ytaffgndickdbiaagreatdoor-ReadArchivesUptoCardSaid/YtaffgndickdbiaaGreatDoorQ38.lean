/-
  Texts: EntsFault, Compare, EntsCheck.
-/
import Derived.Test.YtaffgndickdbiaaGreatDoorQ37
set_option linter.unusedVariables false
set_option linter.unusedSimpArgs false
set_option linter.unusedSectionVars false
namespace Go.Proofs.YtaffgndickdbiaaGreatDoor
open Go.Creel Go.RowKit
theorem entF_call (x : Ent) (w : World) (h : x.Ok maxLen w) : Calls Tryz.prog 101 #[x.val] w fun e w' => e = .returned (.int .i64 (entFault x)) ∧ Below w.heap.size w w' :=
 EntryFault_any x w h.path h.target h.mt (by obtain ⟨_,_,_,_,_,h,_⟩:=h.data;exact h) h.kind (Nat.le_refl _)
set_option maxRecDepth 100000 in
set_option maxHeartbeats 4000000 in
theorem EntsFault_at (b off cap : Nat) (l : List Ent) (w : World) (hpos : 0 < l.length) (hle : l.length ≤ cap) (hm : cap ≤ maxLen) (hc : EntsAt w b off l) (ho : ∀ i,i < l.length → (ek l i).Ok maxLen w) :
 Calls Tryz.prog 48 #[.slice (some ⟨b,off,none⟩) l.length cap] w fun e w'=>e = .returned (.int .i64 (entsFault l))/\Below w.heap.size w w':=by
 have hm':=hm
 unfold maxLen at hm
 have HC:=Lib.hid hc
 have HO:=Lib.hid ho
 have HCAP:=Lib.hid hm'
 clear hc ho hm'
 by_cases hmany:40<l.length
 ·have HF:=Lib.hid (entsFault_many hmany)
  go_enter Tryz.func48,Tryz.ntmps48
  go_wp2
  go_ret
  exact ⟨ret_i HF.out,Below.refl _ _⟩
 have hfew:l.length<=40:=by omega
 clear hmany
 go_enter Tryz.func48,Tryz.ntmps48
 go_wp2
 go_loopw [3,4,5,6,7,8,9,15] (fun _ _ _ _ _ _ _ i wr=>∃ k:Nat,k<=l.length/\i = .int .i64 k/\Hid (∀ j,j<k->stepE l j=0)/\Hid (Below w.heap.size w wr)) (fun _ _ _ _ _ _ _ i _=>l.length-(intOf i).toNat)
 case atStart=>exact ⟨0,by omega,rfl,Lib.hid fun j hj=>absurd hj (by omega),Lib.hid (Below.refl _ _)⟩
 case round =>
  obtain ⟨k,hk,rfl,HZ,HB⟩:=hrel
  by_cases hlt:k<l.length
  ·obtain ⟨h0,h1,h2,h3,h4,h5,h6,h7,h8,h9,h10⟩:=(HC.out.below HB.out) k hlt
   have HX:=Lib.hid ((HO.out k hlt).below HB.out)
   have HAT:=Lib.hid (fun e=>entsFault_at (e:=e) hfew hlt HZ.out)
   by_cases hA:entFault (ek l k)=0
   ·have HA:=Lib.hid hA
    clear hA
    go_wp2_with fail
    have HBX:=Lib.hid (entAt_box wr (ek l k) 26)
    refine (entF_call _ _ (HX.out.below ((Below.refl _ _).alloc (Nat.le_refl _) _))).mono ?_
    rintro e w1 ⟨rfl,hb⟩
    have HB1:=Lib.hid ((HB.out.alloc HB.out.size _).trans (hb.mono (by simp;exact Nat.le_succ_of_le HB.out.size)))
    have HBX1:=Lib.hid (HBX.out.below hb)
    rw [HA.out]
    clear hb h0 h1 h2 h3 h4 h5 h6 h7 h8 h9 h10
    generalize wr.heap.size=bx at *
    obtain ⟨g0,g1,g2,g3,g4,g5,g6,g7,g8,g9,g10⟩:=HBX1.out.zero
    have HPZ:=Lib.hid (fun (j:Nat) (hj:j<=k)=>show (ek l j).path.size<=1048576 from Nat.le_trans (entFault_path (by
     rcases Nat.lt_or_ge j k with h|h
     ·exact (stepE_zero (HZ.out j h)).1
     ·rw [show j=k by omega];exact HA.out)) (by decide))
    go_upto_region 9 with fail
    go_cut [15,38] from 15 to 97 (fun c u wc=>c = .int .i64 k/\u = .bool (ordBadE l k)/\Hid (Below w1.heap.size w1 wc))
    case first =>
     by_cases hk0:k=0
     ·subst hk0
      go_wp2
      go_quiet (fail)
      go_wp2_with fail
      go_meet
      case rel=>exact ⟨rfl,congrArg Value.bool (ordE_zero l).symm,Lib.hid (below_draws _ _ _)⟩
     ·obtain ⟨q,rfl⟩:∃ q,k=q+1:=⟨k-1,by omega⟩
      obtain ⟨p0,_⟩:=(HC.out.below HB1.out) q (by omega)
      have hwq:IntKind.i64.wrap (q:Int)=(q:Int):=by rw [IntKind.wrap_i64];omega
      have hql:(q:Int)<(l.length:Int):=by omega
      go_wp2
      go_still_tail 11,(by kernel_rfl)
      go_wp2_with fail
      refine (PathOrder_any _ _ _ (HPZ.out q (by omega)) (HPZ.out (q+1) (by omega))).mono ?_
      rintro e wc ⟨rfl,hb⟩
      have HBC:=Lib.hid ((Below.refl w1.heap.size w1).drew.trans hb)
      clear hb
      go_wp2_with fail
      go_meet
      case rel=>exact ⟨rfl,congrArg Value.bool (ordE_dec _ _),HBC⟩
    case rest =>
     obtain ⟨rfl,rfl,HBC⟩:=hcut
     have HB2:=Lib.hid (HB1.out.trans (HBC.out.mono HB1.out.size))
     have HBX2:=Lib.hid (HBX1.out.below HBC.out)
     clear g0 g1 g2 g3 g4 g5 g6 g7 g8 g9 g10
     obtain ⟨g0,g1,g2,g3,g4,g5,g6,g7,g8,g9,g10⟩:=HBX2.out.zero
     by_cases hO:OrdOkE l k
     ·have HOK:=Lib.hid hO
      rw [ordBadE_f hO]
      clear hO
      go_wp2_with fail
      refine (PathSplit_any _ _ (Nat.le_trans (HPZ.out k (Nat.le_refl _)) (by decide))).mono ?_
      rintro e w2 ⟨rfl,hb⟩
      have HB3:=Lib.hid (HB2.out.trans (hb.mono HB2.out.size))
      have HBX3:=Lib.hid (HBX2.out.below hb)
      clear hb g0 g1 g2 g3 g4 g5 g6 g7 g8 g9 g10
      obtain ⟨g0,g1,g2,g3,g4,g5,g6,g7,g8,g9,g10⟩:=HBX3.out.zero
      have htk:(l.take k).length=k:=by rw [List.length_take];omega
      have hfind:=fun (n:Nat) (s:ByteArray)=>EntryAt_at b off cap (l.take k) s (w2.drewN n) (by omega) HCAP.out (((HC.out.below HB3.out).below (below_draws _ _ n)).take k)
      rw [htk] at hfind
      have HFI:=Lib.hid hfind
      have htl:=entFind_le (l.take k) (pathUp (ek l k).path)
      have htl2:=entFind_le (l.take k) (ek l k).target
      rw [htk] at htl htl2
      have hkc:k<=cap:=by omega
      have HUP:=Lib.hid (show UpOkE l k↔((pathUp (ek l k).path).size≠0->(metGet l k (pathUp (ek l k).path)).kind=2) from Iff.rfl)
      have HF0:=Lib.hid (HFI.out 0 (pathUp (ek l k).path))
      have HMY:=Lib.hid (fun h=>metGet_yes (l:=l) (k:=k) (s:=pathUp (ek l k).path) h)
      have HMN:=Lib.hid (fun h=>metGet_no (l:=l) (k:=k) (s:=pathUp (ek l k).path) h)
      clear hfind htk
      generalize hn:entFind (l.take k) (pathUp (ek l k).path)=n at HF0 HMY HMN htl
      generalize hup:pathUp (ek l k).path=up at HF0 HUP HMY HMN
      clear hn hup
      go_upto_region 13 with (first|(go_at_call 63;refine HF0.out.mono ?_;rintro e w' ⟨rfl,rfl⟩))
      go_cut [15,64] from 15 to 97 (fun c u wc2=>c = .int .i64 k/\u = .bool (!upOkE l k)/\wc2=w2)
      case first =>
       by_cases h0:up.size=0
       ·have HU:=Lib.hid (upOkE_t (HUP.out.2 fun e=>absurd h0 e))
        have he:=empty_t h0
        clear h0
        go_wp2_with fail
        go_meet
        case rel=>exact ⟨rfl,by rw [HU.out];rfl,rfl⟩
       ·have he:=empty_f h0
        by_cases hnk:n=k
        ·have HU:=Lib.hid (upOkE_f (fun e=>by have:=HUP.out.1 e h0;rw [HMN.out (by omega)] at this;cases this))
         clear h0
         subst hnk
         go_wp2_with fail
         go_meet
         case rel=>exact ⟨rfl,by rw [HU.out];rfl,rfl⟩
        ·obtain ⟨_,q1,_⟩:=(HC.out.below HB3.out) n (by omega)
         have hd:((n:Int)==(k:Int))=false:=by rw [beq_eq_false_iff_ne];omega
         by_cases hkd:(ek l n).kind=2
         ·have HU:=Lib.hid (upOkE_t (HUP.out.2 fun e=>by rw [HMY.out (by omega)];exact hkd))
          have hd2:((ek l n).kind != 2)=false:=by rw [hkd];rfl
          go_wp2_with fail
          go_meet
          case rel=>exact ⟨rfl,by rw [HU.out];rfl,rfl⟩
         ·have HU:=Lib.hid (upOkE_f (fun e=>by have:=HUP.out.1 e h0;rw [HMY.out (by omega)] at this;exact hkd this))
          have hd2:((ek l n).kind != 2)=true:=by rw [bne_iff_ne];exact hkd
          go_wp2_with fail
          go_meet
          case rel=>exact ⟨rfl,by rw [HU.out];rfl,rfl⟩
      case rest =>
       obtain ⟨rfl,rfl,rfl⟩:=hcut
       clear HF0 HUP HMY HMN htl
       by_cases hU:UpOkE l k
       ·rw [upOkE_t hU]
        have HUO:=Lib.hid hU
        clear hU
        have HLK:=Lib.hid (show LinkOkE l k↔((ek l k).kind=4->(metGet l k (ek l k).target).kind=1/\(metGet l k (ek l k).target).mt=(ek l k).mt) from Iff.rfl)
        have HMY:=Lib.hid (fun h=>metGet_yes (l:=l) (k:=k) (s:=(ek l k).target) h)
        have HMN:=Lib.hid (fun h=>metGet_no (l:=l) (k:=k) (s:=(ek l k).target) h)
        have HF1:=Lib.hid (fun n=>HFI.out n (ek l k).target)
        generalize hn:entFind (l.take k) (ek l k).target=n at HF1 HMY HMN htl2
        clear hn
        go_wp2
        go_quiet ((first|(go_at_call 63;exact quiet_same (HF1.out _))))
        go_upto_region 16 with fail
        go_cut [15,96] from 15 to 97 (fun c u wc2=>c = .int .i64 k/\u = .bool (!linkOkE l k)/\Hid (Below wc.heap.size wc wc2))
        case first =>
         by_cases hk4:(ek l k).kind=4
         ·have hd4:((ek l k).kind==4)=true:=by rw [hk4];rfl
          by_cases hnk:n=k
          ·have HU:=Lib.hid (linkOkE_f (fun e=>by have:=(HLK.out.1 e hk4).1;rw [HMN.out (by omega)] at this;cases this))
           clear hk4
           subst hnk
           go_wp2
           go_quiet (fail)
           go_wp2_with fail
           go_meet
           case rel=>exact ⟨rfl,by rw [HU.out];rfl,Lib.hid ((below_draws _ _ _).trans (below_draws _ _ _))⟩
          ·obtain ⟨q0,q1,q2,q3,q4,q5,q6,q7,q8,q9,q10⟩:=(HC.out.below HB3.out) n (by omega)
           have hd:((n:Int)==(k:Int))=false:=by rw [beq_eq_false_iff_ne];omega
           have hnl:(n:Int)<(l.length:Int):=by omega
           by_cases hkd:(ek l n).kind=1
           ·have hd2:((ek l n).kind != 1)=false:=by rw [hkd];rfl
            by_cases hmt:(ek l n).mt=(ek l k).mt
            ·have HU:=Lib.hid (linkOkE_t (HLK.out.2 fun _=>by rw [HMY.out (by omega)];exact ⟨hkd,hmt⟩))
             have e0:=congrArg Meta.mode hmt
             have e1:=congrArg Meta.uid hmt
             have e2:=congrArg Meta.gid hmt
             have e3:(ek l n).mt.user.toList=(ek l k).mt.user.toList:=by rw [hmt]
             have e4:(ek l n).mt.group.toList=(ek l k).mt.group.toList:=by rw [hmt]
             have e5:=congrArg Meta.second hmt
             have e6:=congrArg Meta.nano hmt
             clear hmt hk4 hkd
             go_wp2
             go_quiet (fail)
             go_wp2_with fail
             go_meet
             case rel=>exact ⟨rfl,by rw [HU.out];rfl,Lib.hid ((below_draws _ _ _).trans (below_draws _ _ _))⟩
            ·have HU:=Lib.hid (linkOkE_f (fun e=>by have:=(HLK.out.1 e hk4).2;rw [HMY.out (by omega)] at this;exact hmt this))
             clear hk4 hkd
             rcases meta_casesE hmt with e0|⟨e0,e1⟩|⟨e0,e1,e2⟩|⟨e0,e1,e2,e3⟩|⟨e0,e1,e2,e3,e4⟩|⟨e0,e1,e2,e3,e4,e5⟩|⟨e0,e1,e2,e3,e4,e5,e6⟩
             all_goals clear hmt
             all_goals go_wp2
             all_goals go_quiet (fail)
             all_goals go_wp2_with fail
             all_goals go_meet
             all_goals exact ⟨rfl,by rw [HU.out];rfl,Lib.hid ((below_draws _ _ _).trans (below_draws _ _ _))⟩
           ·have HU:=Lib.hid (linkOkE_f (fun e=>by have:=(HLK.out.1 e hk4).1;rw [HMY.out (by omega)] at this;exact hkd this))
            have hd2:((ek l n).kind != 1)=true:=by rw [bne_iff_ne];exact hkd
            clear hk4 hkd
            go_wp2
            go_quiet (fail)
            go_wp2_with fail
            go_meet
            case rel=>exact ⟨rfl,by rw [HU.out];rfl,Lib.hid ((below_draws _ _ _).trans (below_draws _ _ _))⟩
         ·have HU:=Lib.hid (linkOkE_t (HLK.out.2 fun e=>absurd e hk4))
          have hd4:((ek l k).kind==4)=false:=by rw [beq_eq_false_iff_ne];exact hk4
          clear hk4
          go_wp2
          go_quiet (fail)
          go_wp2_with fail
          go_meet
          case rel=>exact ⟨rfl,by rw [HU.out];rfl,Lib.hid ((below_draws _ _ _).trans (below_draws _ _ _))⟩
        case rest =>
         obtain ⟨rfl,rfl,HBD⟩:=hcut
         have HB5:=Lib.hid (HB3.out.trans (HBD.out.mono HB3.out.size))
         by_cases hL:LinkOkE l k
         ·rw [linkOkE_t hL]
          have HS:=Lib.hid (stepE_ok HA.out HOK.out HUO.out hL)
          clear hL
          go_wp2
          go_roundw
          case rel=>exact ⟨k+1,by omega,by go_num,Lib.hid (zsE_next HZ.out HS.out),HB5⟩
          case measure=>simp [intOf];omega
         ·rw [linkOkE_f hL]
          have HF:=Lib.hid (HAT.out 11 (stepE_link HA.out HOK.out HUO.out hL) (by decide))
          clear hL
          go_wp2
          go_ret
          exact ⟨ret_i HF.out,HB5.out⟩
       ·have HF:=Lib.hid (HAT.out 10 (stepE_up HA.out HOK.out hU) (by decide))
        rw [upOkE_f hU]
        clear hU
        go_wp2
        go_ret
        exact ⟨ret_i HF.out,HB3.out⟩
     ·have HF:=Lib.hid (HAT.out 6 (stepE_ord HA.out hO) (by decide))
      rw [ordBadE_t hO]
      clear hO
      go_wp2
      go_ret
      exact ⟨ret_i HF.out,HB2.out⟩
   ·have HF:=Lib.hid (HAT.out _ (stepE_ent hA) hA)
    go_wp2_with fail
    refine (entF_call _ _ (HX.out.below ((Below.refl _ _).alloc (Nat.le_refl _) _))).mono ?_
    rintro e w1 ⟨rfl,hb⟩
    have HB1:=Lib.hid ((HB.out.alloc HB.out.size _).trans (hb.mono (by simp;exact Nat.le_succ_of_le HB.out.size)))
    clear hb h0 h1 h2 h3 h4 h5 h6 h7 h8 h9 h10
    generalize entFault (ek l k)=q at *
    go_wp2
    go_ret
    exact ⟨ret_i HF.out,HB1.out⟩
  ·obtain rfl:k=l.length:=by omega
   have HF:=Lib.hid (entsFault_ok hfew HZ.out)
   go_wp2
   go_ret
   exact ⟨ret_i HF.out,HB.out⟩
set_option maxRecDepth 100000 in
theorem EntsFault_nil (a : Option Addr) (cap : Nat) (w : World) :
 Calls Tryz.prog 48 #[.slice a 0 cap] w fun e w'=>e = .returned (.int .i64 0)/\w=w':=by
 go_enter Tryz.func48,Tryz.ntmps48
 go_wp2
 go_loop [3,4,5,6,7,8,9,15] (fun _ _ _ _ _ _ _ i=>i = .int .i64 0) (fun _ _ _ _ _ _ _ _=>0)
 case atStart=>rfl
 case round =>
  obtain rfl:=hrel
  go_wp2
  go_ret
  exact ⟨rfl,rfl⟩
open Go.Creel Go.RowKit
set_option maxRecDepth 100000 in
theorem Compare_any (a b : ByteArray) (w : World) (hM : MaxOk w) (ha : a.size ≤ 1048576) (hb : b.size ≤ 1048576) :
 Calls Tryz.prog 113 #[.string a,.string b] w fun e w'=>e = .returned (.int .i64 (ordP (pathParts a) (pathParts b)))/\Below w.heap.size w w':=by
 have HX:=Lib.hid (parts_len' ha)
 have HY:=Lib.hid (parts_len' hb)
 have HM:=Lib.hid hM
 clear hM
 go_enter Tryz.func113,Tryz.ntmps113
 go_wp2_with fail
 refine (Parts_any _ _ HM.out (by omega)).mono ?_
 rintro e w1 ⟨v1,rfl,ho,hb1⟩
 have HB1:=Lib.hid hb1
 have HO1:=Lib.hid ho
 clear hb1 ho
 go_wp2_with fail
 refine (Parts_any _ _ (HM.out.below HB1.out) (by omega)).mono ?_
 rintro e w2 ⟨v2,rfl,ho,hb2⟩
 have HB2:=Lib.hid (HB1.out.trans (hb2.mono HB1.out.size))
 have HO2:=Lib.hid (HO1.out.below hb2)
 have HP2:=Lib.hid ho
 clear hb2 ho
 go_wp2_with fail
 refine (cmpTexts_any _ _ _ _ _ _ _ HX.out HY.out HO2.out HP2.out).mono ?_
 rintro e w3 ⟨rfl,hb3⟩
 have HB3:=Lib.hid (HB2.out.trans (hb3.mono HB2.out.size))
 clear hb3
 go_wp2
 go_ret
 exact ⟨rfl,HB3.out⟩
end Go.Proofs.YtaffgndickdbiaaGreatDoor
namespace Go.Creel
open Go.RowKit
def MetIs (l : List Ent) (k : Nat) (m : List (ByteArray × Value)) : Prop := ∀ s,assoc s m = if entFind (l.take k) s < k then some (metGet l k s).val else none
theorem MetIs.start (l : List Ent) : MetIs l 0 [] := fun s => rfl
theorem MetIs.put {l : List Ent} {k : Nat} {m : List (ByteArray × Value)} (h : MetIs l k m) (hk : k < l.length) (hz : ∀ j,j < k + 1 → stepE l j = 0) : MetIs l (k + 1) (assocPut (ek l k).path (ek l k).val m) := by
 have hne:=chain_ne (p:=fun j=>(ek l j).path) (k:=k) (fun i h0 h1=>(stepE_zero (hz i (by omega))).2 h0)
 intro s
 rw [assoc_put]
 by_cases e:s=(ek l k).path
 ·rw [if_pos e]
  have hf:entFind (l.take (k+1)) s=k:=by
   refine entFind_at (by rw [List.length_take];omega) (fun j hj=>?_) (by rw [ek_take (by omega)];exact e.symm)
   rw [ek_take (by omega),e]
   exact hne j hj
  rw [if_pos (by omega),metGet_yes (by omega),hf]
 ·rw [if_neg e,h s]
  by_cases hf:entFind (l.take k) s<k
  ·rw [if_pos hf,metGet_yes hf]
   have h1:=entFind_take hk hf
   rw [if_pos (by omega),metGet_yes (by omega),h1]
  ·rw [if_neg hf]
   have hn:=entFind_not (by omega) hf
   have:entFind (l.take (k+1)) s=k+1:=entFind_none (by omega) (fun j hj=>by
    by_cases ej:j=k
    ·rw [ej];exact fun h=>e h.symm
    ·exact hn j (by omega))
   rw [if_neg (by omega)]
end Go.Creel
namespace Go.Proofs.YtaffgndickdbiaaGreatDoor
open Go.Creel Go.RowKit
theorem entR_call (x : Ent) (w : World) (hM : MaxOk w) (h : x.Ok maxLen w) : Calls Tryz.prog 36 #[x.val] w fun e w' => e = .returned (.int .i64 (entFault x)) ∧ Below w.heap.size w w' :=
 PlanRight_any x w hM h.path h.target h.mt (by obtain ⟨_,_,_,_,_,h,_⟩:=h.data;exact h) h.kind (Nat.le_refl _)
theorem met_look {l : List Ent} {k mb : Nat} {m : List (ByteArray × Value)} {w : World} (hm : MapIs (fun s : ByteArray => Value.string s) w mb m) (h : MetIs l k m) (s : ByteArray) :
 (Instr.lookup 140 (.map (some mb)) (.string s) false).run Tryz.prog w = .ok (.agg #[.string (metGet l k s).path,.int .i64 (metGet l k s).kind,.string (metGet l k s).target,.int .i64 (metGet l k s).mt.mode,.int .i64 (metGet l k s).mt.uid,.int .i64 (metGet l k s).mt.gid,.string (metGet l k s).mt.user,.string (metGet l k s).mt.group,.int .i64 (metGet l k s).mt.second,.int .i64 (metGet l k s).mt.nano,.slice (metGet l k s).da (metGet l k s).data.length (metGet l k s).dcap]) w:=by
 by_cases hf:entFind (l.take k) s<k
 ·exact hm.look_some keyOn_str (t:=140) (k:=9) (e:=26) Tryz.underlying140 Tryz.underlying9 (by rw [h s,if_pos hf]) false
 ·rw [metGet_no hf]
  exact hm.look_none keyOn_str (t:=140) (k:=9) (e:=26) Tryz.underlying140 Tryz.underlying9 (by rw [h s,if_neg hf]) (Tryz.zeroValue26 _) false
set_option maxRecDepth 100000 in
set_option maxHeartbeats 4000000 in
theorem EntsCheck_at (b off cap : Nat) (l : List Ent) (w : World) (hM : MaxOk w) (hpos : 0 < l.length) (hle : l.length ≤ cap) (hm : cap ≤ maxLen) (hc : EntsAt w b off l) (ho : ∀ i,i < l.length → (ek l i).Ok maxLen w) :
 Calls Tryz.prog 46 #[.slice (some ⟨b,off,none⟩) l.length cap] w fun e w'=>e = .returned (.int .i64 (entsFault l))/\Below w.heap.size w w':=by
 have hm':=hm
 unfold maxLen at hm
 have HC:=Lib.hid hc
 have HO:=Lib.hid ho
 have HM:=Lib.hid hM
 have HCAP:=Lib.hid hm'
 clear hc ho hm' hM
 by_cases hmany:40<l.length
 ·have HF:=Lib.hid (entsFault_many hmany)
  go_enter Tryz.func46,Tryz.ntmps46
  go_wp2
  go_ret
  exact ⟨ret_i HF.out,Below.refl _ _⟩
 have hfew:l.length<=40:=by omega
 clear hmany
 have HMS:=Lib.hid (MapIs.made (fun s:ByteArray=>Value.string s) w)
 have HMB:=Lib.hid ((Below.refl w.heap.size w).alloc (Nat.le_refl _) (.map #[] 0))
 have hmm := @run_makeMap Tryz.prog
 go_enter Tryz.func46,Tryz.ntmps46
 go_wp2
 clear hmm
 generalize hmb:w.heap.size=mb at HMS
 have HMBE:=Lib.hid hmb
 go_loopw [4,5,6,7,8,15] (fun _ _ _ _ _ i wr=>∃ (k:Nat) (m:List (ByteArray×Value)),k<=l.length/\i = .int .i64 k/\Hid (∀ j,j<k->stepE l j=0)/\Hid (Below w.heap.size w wr)/\Hid (MapIs (fun s:ByteArray=>Value.string s) wr mb m)/\Hid (MetIs l k m)) (fun _ _ _ _ _ i _=>l.length-(intOf i).toNat)
 case atStart=>exact ⟨0,[],by omega,rfl,Lib.hid fun j hj=>absurd hj (by omega),HMB,HMS,Lib.hid (MetIs.start l)⟩
 case round =>
  obtain ⟨k,m,hk,rfl,HZ,HB,HMI,HFI⟩:=hrel
  by_cases hlt:k<l.length
  ·obtain ⟨h0,h1,h2,h3,h4,h5,h6,h7,h8,h9,h10⟩:=(HC.out.below HB.out) k hlt
   have HX:=Lib.hid ((HO.out k hlt).below HB.out)
   have HAT:=Lib.hid (fun e=>entsFault_at (e:=e) hfew hlt HZ.out)
   have HMLT:=Lib.hid HMI.out.lt
   by_cases hA:entFault (ek l k)=0
   ·have HA:=Lib.hid hA
    clear hA
    go_wp2_with fail
    have HBX:=Lib.hid (entAt_box wr (ek l k) 26)
    refine (entR_call _ _ (HM.out.below (HB.out.alloc HB.out.size _)) (HX.out.below ((Below.refl _ _).alloc (Nat.le_refl _) _))).mono ?_
    rintro e w1 ⟨rfl,hb⟩
    have HB1:=Lib.hid ((HB.out.alloc HB.out.size _).trans (hb.mono (by simp;exact Nat.le_succ_of_le HB.out.size)))
    have HBX1:=Lib.hid (HBX.out.below hb)
    have HM1:=Lib.hid (HMI.out.below (((Below.refl _ _).alloc (Nat.le_refl _) _).trans (hb.mono (by simp))) HMLT.out)
    have HMLT1:=Lib.hid HM1.out.lt
    rw [HA.out]
    clear hb h0 h1 h2 h3 h4 h5 h6 h7 h8 h9 h10
    generalize wr.heap.size=bx at *
    obtain ⟨g0,g1,g2,g3,g4,g5,g6,g7,g8,g9,g10⟩:=HBX1.out.zero
    have HPZ:=Lib.hid (fun (j:Nat) (hj:j<=k)=>show (ek l j).path.size<=1048576 from Nat.le_trans (entFault_path (by
     rcases Nat.lt_or_ge j k with h|h
     ·exact (stepE_zero (HZ.out j h)).1
     ·rw [show j=k by omega];exact HA.out)) (by decide))
    go_upto_region 10 with fail
    go_cut [15,38] from 15 to 74 (fun c u wc=>c = .int .i64 k/\u = .bool (ordBadE l k)/\Hid (Below w1.heap.size w1 wc))
    case first =>
     by_cases hk0:k=0
     ·subst hk0
      go_wp2
      go_quiet (fail)
      go_wp2_with fail
      go_meet
      case rel=>exact ⟨rfl,congrArg Value.bool (ordE_zero l).symm,Lib.hid (below_draws _ _ _)⟩
     ·obtain ⟨q,rfl⟩:∃ q,k=q+1:=⟨k-1,by omega⟩
      obtain ⟨p0,_⟩:=(HC.out.below HB1.out) q (by omega)
      have hwq:IntKind.i64.wrap (q:Int)=(q:Int):=by rw [IntKind.wrap_i64];omega
      have hql:(q:Int)<(l.length:Int):=by omega
      go_wp2
      go_still_tail 11,(by kernel_rfl)
      go_wp2_with fail
      refine (Compare_any _ _ _ ((HM.out.below HB1.out).below (Below.refl _ _).drew) (HPZ.out q (by omega)) (HPZ.out (q+1) (by omega))).mono ?_
      rintro e wc ⟨rfl,hb⟩
      have HBC:=Lib.hid ((Below.refl w1.heap.size w1).drew.trans hb)
      clear hb
      go_wp2_with fail
      go_meet
      case rel=>exact ⟨rfl,congrArg Value.bool (ordE_dec _ _),HBC⟩
    case rest =>
     obtain ⟨rfl,rfl,HBC⟩:=hcut
     have HB2:=Lib.hid (HB1.out.trans (HBC.out.mono HB1.out.size))
     have HBX2:=Lib.hid (HBX1.out.below HBC.out)
     have HM2:=Lib.hid (HM1.out.below HBC.out HMLT1.out)
     have HMLT2:=Lib.hid HM2.out.lt
     clear g0 g1 g2 g3 g4 g5 g6 g7 g8 g9 g10
     obtain ⟨g0,g1,g2,g3,g4,g5,g6,g7,g8,g9,g10⟩:=HBX2.out.zero
     by_cases hO:OrdOkE l k
     ·have HOK:=Lib.hid hO
      rw [ordBadE_f hO]
      clear hO
      have HUPC:=Lib.hid (fun w:World=>Up_any (ek l k).path w (Nat.le_trans (HPZ.out k (Nat.le_refl _)) (by decide)))
      have hlook:=met_look HM2.out HFI.out (pathUp (ek l k).path)
      have HUP:=Lib.hid (show UpOkE l k↔((pathUp (ek l k).path).size≠0->(metGet l k (pathUp (ek l k).path)).kind=2) from Iff.rfl)
      generalize hfu:metGet l k (pathUp (ek l k).path)=fu at hlook HUP
      clear hfu
      generalize pathUp (ek l k).path=up at *
      have hfld:∀ w:World,(Instr.field 26 (.agg #[.string fu.path,.int .i64 fu.kind,.string fu.target,.int .i64 fu.mt.mode,.int .i64 fu.mt.uid,.int .i64 fu.mt.gid,.string fu.mt.user,.string fu.mt.group,.int .i64 fu.mt.second,.int .i64 fu.mt.nano,.slice fu.da fu.data.length fu.dcap]) 1).run Tryz.prog w = .ok (.int .i64 fu.kind) w:=fun _=>rfl
      go_upto_region 13 with (go_at_call 114;refine (HUPC.out _).mono ?_;rintro e w' ⟨rfl,rfl⟩)
      go_cut [15,50] from 15 to 74 (fun c u wc2=>c = .int .i64 k/\u = .bool (!upOkE l k)/\wc2=wc)
      case first =>
       by_cases h0:up.size=0
       ·have HU:=Lib.hid (upOkE_t (HUP.out.2 fun e=>absurd h0 e))
        have he:=empty_t h0
        clear h0
        go_wp2_with fail
        go_meet
        case rel=>exact ⟨rfl,by rw [HU.out];rfl,rfl⟩
       ·have he:=empty_f h0
        by_cases hkd:fu.kind=2
        ·have HU:=Lib.hid (upOkE_t (HUP.out.2 fun e=>hkd))
         have hd2:(fu.kind != 2)=false:=by rw [hkd];rfl
         clear hkd h0
         go_wp2_with fail
         go_meet
         case rel=>exact ⟨rfl,by rw [HU.out];rfl,rfl⟩
        ·have HU:=Lib.hid (upOkE_f (fun e=>hkd (HUP.out.1 e h0)))
         have hd2:(fu.kind != 2)=true:=by rw [bne_iff_ne];exact hkd
         clear hkd h0
         go_wp2_with fail
         go_meet
         case rel=>exact ⟨rfl,by rw [HU.out];rfl,rfl⟩
      case rest =>
       obtain ⟨rfl,rfl,hwz⟩:=hcut
       subst hwz
       clear HUP hlook
       by_cases hU:UpOkE l k
       ·rw [upOkE_t hU]
        have HUO:=Lib.hid hU
        clear hU
        have hlook:=met_look HM2.out HFI.out (ek l k).target
        have HLK:=Lib.hid (show LinkOkE l k↔((ek l k).kind=4->(metGet l k (ek l k).target).kind=1/\(metGet l k (ek l k).target).mt=(ek l k).mt) from Iff.rfl)
        generalize metGet l k (ek l k).target=fe at hlook HLK
        have hbz:=HBX2.out.lt
        have HB5:=Lib.hid (HB2.out.alloc HB2.out.size (.cells #[.string fe.path,.int .i64 fe.kind,.string fe.target,.int .i64 fe.mt.mode,.int .i64 fe.mt.uid,.int .i64 fe.mt.gid,.string fe.mt.user,.string fe.mt.group,.int .i64 fe.mt.second,.int .i64 fe.mt.nano,.slice fe.da fe.data.length fe.dcap] 26))
        have HBX5:=Lib.hid (HBX2.out.below ((Below.refl _ _).alloc (Nat.le_refl _) (.cells #[.string fe.path,.int .i64 fe.kind,.string fe.target,.int .i64 fe.mt.mode,.int .i64 fe.mt.uid,.int .i64 fe.mt.gid,.string fe.mt.user,.string fe.mt.group,.int .i64 fe.mt.second,.int .i64 fe.mt.nano,.slice fe.da fe.data.length fe.dcap] 26)))
        have HM5:=Lib.hid (HM2.out.below ((Below.refl _ _).alloc (Nat.le_refl _) (.cells #[.string fe.path,.int .i64 fe.kind,.string fe.target,.int .i64 fe.mt.mode,.int .i64 fe.mt.uid,.int .i64 fe.mt.gid,.string fe.mt.user,.string fe.mt.group,.int .i64 fe.mt.second,.int .i64 fe.mt.nano,.slice fe.da fe.data.length fe.dcap] 26)) HMLT2.out)
        have HFX:=Lib.hid (entAt_box wc fe 26)
        go_upto_region 16 with fail
        go_cut [15,69] from 15 to 74 (fun c u wd=>c = .int .i64 k/\u = .bool (!linkOkE l k)/\wd=wc.alloc (.cells #[.string fe.path,.int .i64 fe.kind,.string fe.target,.int .i64 fe.mt.mode,.int .i64 fe.mt.uid,.int .i64 fe.mt.gid,.string fe.mt.user,.string fe.mt.group,.int .i64 fe.mt.second,.int .i64 fe.mt.nano,.slice fe.da fe.data.length fe.dcap] 26))
        case first =>
         by_cases hk4:(ek l k).kind=4
         ·have hd4:((ek l k).kind==4)=true:=by rw [hk4];rfl
          by_cases hkd:fe.kind=1
          ·have hd2:(fe.kind != 1)=false:=by rw [hkd];rfl
           by_cases hmt:fe.mt=(ek l k).mt
           ·have HU:=Lib.hid (linkOkE_t (HLK.out.2 fun _=>⟨hkd,hmt⟩))
            have e0:=congrArg Meta.mode hmt
            have e1:=congrArg Meta.uid hmt
            have e2:=congrArg Meta.gid hmt
            have e3:fe.mt.user.toList=(ek l k).mt.user.toList:=by rw [hmt]
            have e4:fe.mt.group.toList=(ek l k).mt.group.toList:=by rw [hmt]
            have e5:=congrArg Meta.second hmt
            have e6:=congrArg Meta.nano hmt
            clear hmt hk4 hkd
            go_wp2_with fail
            go_meet
            case rel=>exact ⟨rfl,by rw [HU.out];rfl,by rw [e0,e1,e2,e5,e6]⟩
           ·have HU:=Lib.hid (linkOkE_f (fun e=>hmt (HLK.out.1 e hk4).2))
            clear hk4 hkd
            rcases meta_casesE hmt with e0|⟨e0,e1⟩|⟨e0,e1,e2⟩|⟨e0,e1,e2,e3⟩|⟨e0,e1,e2,e3,e4⟩|⟨e0,e1,e2,e3,e4,e5⟩|⟨e0,e1,e2,e3,e4,e5,e6⟩
            all_goals clear hmt
            all_goals go_wp2_with fail
            all_goals go_meet
            all_goals exact ⟨rfl,by rw [HU.out];rfl,by first|rfl|rw [e0,e1,e2,e5]|rw [e0,e1,e2]|rw [e0,e1]|rw [e0]⟩
          ·have HU:=Lib.hid (linkOkE_f (fun e=>hkd (HLK.out.1 e hk4).1))
           have hd2:(fe.kind != 1)=true:=by rw [bne_iff_ne];exact hkd
           clear hk4 hkd
           go_wp2_with fail
           go_meet
           case rel=>exact ⟨rfl,by rw [HU.out];rfl,rfl⟩
         ·have HU:=Lib.hid (linkOkE_t (HLK.out.2 fun e=>absurd e hk4))
          have hd4:((ek l k).kind==4)=false:=by rw [beq_eq_false_iff_ne];exact hk4
          clear hk4
          go_wp2_with fail
          go_meet
          case rel=>exact ⟨rfl,by rw [HU.out];rfl,rfl⟩
        case rest =>
         obtain ⟨rfl,rfl,hwx⟩:=hcut
         subst hwx
         by_cases hL:LinkOkE l k
         ·rw [linkOkE_t hL]
          have HS:=Lib.hid (stepE_ok HA.out HOK.out HUO.out hL)
          have HFN:=Lib.hid (HFI.out.put hlt (zsE_next HZ.out HS.out))
          have HWB:=Lib.hid (show mb>=w.heap.size by rw [HMBE.out];exact Nat.le_refl _)
          obtain ⟨wp,hput,hmp,hgr⟩:=MapIs.put HM5.out keyOn_str (t:=140) (k:=9) (e:=26) Tryz.underlying140 Tryz.underlying9 (ek l k).path (ek l k).val
          have HMP:=Lib.hid hmp
          have HB6:=Lib.hid (HB5.out.grown hgr HB5.out.size (fun q hq=>by cases hq;exact HWB.out))
          clear hL hmp hgr hlook
          go_wp2
          go_roundw
          case rel=>exact ⟨k+1,_,by omega,by go_num,Lib.hid (zsE_next HZ.out HS.out),HB6,HMP,HFN⟩
          case measure=>simp [intOf];omega
         ·rw [linkOkE_f hL]
          have HF:=Lib.hid (HAT.out 11 (stepE_link HA.out HOK.out HUO.out hL) (by decide))
          clear hL
          go_wp2
          go_ret
          exact ⟨ret_i HF.out,HB5.out⟩
       ·have HF:=Lib.hid (HAT.out 10 (stepE_up HA.out HOK.out hU) (by decide))
        rw [upOkE_f hU]
        clear hU
        go_wp2
        go_ret
        exact ⟨ret_i HF.out,HB2.out⟩
     ·have HF:=Lib.hid (HAT.out 6 (stepE_ord HA.out hO) (by decide))
      rw [ordBadE_t hO]
      clear hO
      go_wp2
      go_ret
      exact ⟨ret_i HF.out,HB2.out⟩
   ·have HF:=Lib.hid (HAT.out _ (stepE_ent hA) hA)
    go_wp2_with fail
    refine (entR_call _ _ (HM.out.below (HB.out.alloc HB.out.size _)) (HX.out.below ((Below.refl _ _).alloc (Nat.le_refl _) _))).mono ?_
    rintro e w1 ⟨rfl,hb⟩
    have HB1:=Lib.hid ((HB.out.alloc HB.out.size _).trans (hb.mono (by simp;exact Nat.le_succ_of_le HB.out.size)))
    clear hb h0 h1 h2 h3 h4 h5 h6 h7 h8 h9 h10
    generalize entFault (ek l k)=q at *
    go_wp2
    go_ret
    exact ⟨ret_i HF.out,HB1.out⟩
  ·obtain rfl:k=l.length:=by omega
   have HF:=Lib.hid (entsFault_ok hfew HZ.out)
   go_wp2
   go_ret
   exact ⟨ret_i HF.out,HB.out⟩
set_option maxRecDepth 100000 in
theorem EntsCheck_nil (a : Option Addr) (cap : Nat) (w : World) :
 Calls Tryz.prog 46 #[.slice a 0 cap] w fun e w'=>e = .returned (.int .i64 0)/\Below w.heap.size w w':=by
 have HMB:=Lib.hid ((Below.refl w.heap.size w).alloc (Nat.le_refl _) (.map #[] 0))
 have hmm := @run_makeMap Tryz.prog
 go_enter Tryz.func46,Tryz.ntmps46
 go_wp2
 clear hmm
 go_loop [4,5,6,7,8,15] (fun _ _ _ _ _ i=>i = .int .i64 0) (fun _ _ _ _ _ _=>0)
 case atStart=>rfl
 case round =>
  obtain rfl:=hrel
  go_wp2
  go_ret
  exact ⟨rfl,HMB.out⟩
theorem entsFault_nil : entsFault [] = 0 := entsFault_ok (by simp) (fun j hj => absurd hj (by simp))
theorem EntsCheck_any (v : Value) (l : List Ent) (w : World) (hM : MaxOk w) (h : SliceC maxLen 11 (EntC maxLen) w [v] l) :
 Calls Tryz.prog 46 #[v] w fun e w'=>e = .returned (.int .i64 (entsFault l))/\Below w.heap.size w w':=by
 rcases ents_cases h with ⟨a,cap,rfl,rfl,_⟩|⟨b,off,cap,rfl,h1,h2,h3,_,h4,h5⟩
 ·rw [entsFault_nil];exact EntsCheck_nil a cap w
 ·exact EntsCheck_at b off cap l w hM h1 h2 h3 h4 h5
theorem EntsFault_any (v : Value) (l : List Ent) (w : World) (h : SliceC maxLen 11 (EntC maxLen) w [v] l) :
 Calls Tryz.prog 48 #[v] w fun e w'=>e = .returned (.int .i64 (entsFault l))/\Below w.heap.size w w':=by
 rcases ents_cases h with ⟨a,cap,rfl,rfl,_⟩|⟨b,off,cap,rfl,h1,h2,h3,_,h4,h5⟩
 ·rw [entsFault_nil]
  exact (EntsFault_nil a cap w).mono fun e w' ⟨h1,h2⟩=>⟨h1,by rw [<-h2];exact Below.refl _ _⟩
 ·exact EntsFault_at b off cap l w h1 h2 h3 h4 h5
end Go.Proofs.YtaffgndickdbiaaGreatDoor
