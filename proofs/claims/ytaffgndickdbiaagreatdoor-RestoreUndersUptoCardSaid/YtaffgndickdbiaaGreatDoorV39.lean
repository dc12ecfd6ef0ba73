/- A part of the proof. -/
import Derived.Test.YtaffgndickdbiaaGreatDoorV38
set_option linter.unusedVariables false
set_option linter.unusedSimpArgs false
set_option maxRecDepth 100000
set_option maxHeartbeats 40000000
namespace Go.Creel
open Go.RowKit
theorem A8t (w : World) (x : Nod) (t : TypeId) : B4u (w.alloc (.cells #[.string x.path,.int .i64 x.kind,.int .i64 x.same,.string x.target,.int .i64 x.mt.mode,.int .i64 x.mt.uid,.int .i64 x.mt.gid,.string x.mt.user,.string x.mt.group,.int .i64 x.mt.second,.int .i64 x.mt.nano,.slice x.da x.data.length x.dcap] t)) w.heap.size 0 x := by
 refine ⟨?_,?_,?_,?_,?_,?_,?_,?_,?_,?_,?_,?_⟩<;>simp [World.cell?_alloc_new]
theorem B4u.zero {w : World} {b : Nat} {x : Nod} (h : B4u w b 0 x) : w.cell? ⟨b,0,none⟩ = some (.string x.path) ∧ w.cell? ⟨b,1,none⟩ = some (.int .i64 x.kind) ∧ w.cell? ⟨b,2,none⟩ = some (.int .i64 x.same) ∧ w.cell? ⟨b,3,none⟩ = some (.string x.target) ∧ w.cell? ⟨b,4,none⟩ = some (.int .i64 x.mt.mode) ∧ w.cell? ⟨b,5,none⟩ = some (.int .i64 x.mt.uid) ∧ w.cell? ⟨b,6,none⟩ = some (.int .i64 x.mt.gid) ∧ w.cell? ⟨b,7,none⟩ = some (.string x.mt.user) ∧ w.cell? ⟨b,8,none⟩ = some (.string x.mt.group) ∧ w.cell? ⟨b,9,none⟩ = some (.int .i64 x.mt.second) ∧ w.cell? ⟨b,10,none⟩ = some (.int .i64 x.mt.nano) ∧ w.cell? ⟨b,11,none⟩ = some (.slice x.da x.data.length x.dcap) := h
def C0a (l : List Nod) (k : Nat) : Bool := decide (0 < k ∧ ¬ B7b (A8a (nk l (k - 1)).path) (A8a (nk l k).path) = -1)
theorem E6j {l : List Nod} {k : Nat} (h : C1p l k) : C0a l k = false := decide_eq_false (fun e => e.2 (h e.1))
theorem F0c (l : List Nod) (q : Nat) : (B7b (A8a (nk l q).path) (A8a (nk l (q + 1)).path) != -1) = C0a l (q + 1) := by
 unfold C0a;rw [Nat.add_sub_cancel];by_cases h:B7b (A8a (nk l q).path) (A8a (nk l (q+1)).path) = -1
 ·rw [h];simp
 ·rw [decide_eq_true ⟨by omega,h⟩,bne_iff_ne];exact h
theorem E5j {l : List Nod} {k : Nat} (h : ¬ C1p l k) : C0a l k = true := by
 refine decide_eq_true (Classical.byContradiction fun e=>h fun h0=>Classical.byContradiction fun h1=>e ⟨h0,h1⟩)
open Classical in
noncomputable def D3f (l : List Nod) (k : Nat) : Bool := decide (E2y l k)
theorem E7y {l : List Nod} {k : Nat} (h : E2y l k) : D3f l k = true := by unfold D3f; simp [h]
theorem E8y {l : List Nod} {k : Nat} (h : ¬ E2y l k) : D3f l k = false := by unfold D3f; simp [h]
theorem C1r {l : List Nod} {i : Nat} (h : A6c (nk l i) = 0) (h1 : C1p l i) (h2 : ¬ E2y l i) : A9k l i = 10 := by
 refine E4i h h1 (fun e=>h2 fun h=>absurd e h) (fun e=>h2 fun _=>e)
noncomputable def E6n (y x : Nod) : Bool := decide (y.same = x.same) && !A5x y x
theorem bad_t {y x : Nod} (h : E6n y x = true) : y.same = x.same ∧ A5x y x = false := by unfold E6n at h; simpa using h
theorem bad_f {y x : Nod} (h : E6n y x = false) (he : y.same = x.same) : A5x y x = true := by unfold E6n at h; simpa [he] using h
theorem D2h {l : List Nod} {k : Nat} (h : ¬ C1p l k) : 0 < k ∧ ¬ B7b (A8a (nk l (k - 1)).path) (A8a (nk l k).path) = -1 := by
 unfold C1p at h;by_cases h0:0<k
 ·exact ⟨h0,fun e=>h fun _=>e⟩
 ·exact absurd (fun e=>absurd e h0) h
end Go.Creel
namespace Go.Proofs.YtaffgndickdbiaaGreatDoor
open Go.Creel Go.RowKit
theorem D5k {N : Nat} (x : Nod) (w : World) (hp : x.path.size ≤ N) (ht : x.target.size ≤ N) (hm : x.mt.Ok N) (hd : x.data.length ≤ maxLen) (hk : i64 x.kind) (hs : i64 x.same) (hN : N ≤ maxLen) :
 Calls Tryz.prog 142 #[x.val] w fun e w'=>e=.returned (.int .i64 (A6c x))/\Below w.heap.size w w':=by
 obtain ⟨path,kind,same,target,⟨mode,uid,gid,user,group,second,nano⟩,da,dcap,data⟩:=x;unfold maxLen at hd;have HPZ:=Hi (Nat.le_trans hp hN);have HTZ:=Hi (Nat.le_trans ht hN);have htz:=Nat.le_trans ht hN;unfold maxLen at htz;have HMO:=Hi hm;have hk2:=hk;have hs2:=hs;unfold i64 at hk2 hs2;have HF:Hid (∀ c,A0k (A8b path) (A9d ⟨mode,uid,gid,user,group,second,nano⟩) kind same data.length target.size (hasN target)=c->A6c ⟨path,kind,same,target,⟨mode,uid,gid,user,group,second,nano⟩,da,dcap,data⟩=c):=Hi fun c h=>h
 generalize hR:A6c _=R at *;clear hp ht hm hk hs hR;have hix0:Hid (A8k target 0=true\/A8k target 0=false):=Hi (by cases A8k target 0<;>simp);show Calls Tryz.prog 142 #[.agg #[.string path,.int .i64 kind,.int .i64 same,.string target,.int .i64 mode,.int .i64 uid,.int .i64 gid,.string user,.string group,.int .i64 second,.int .i64 nano,.slice da data.length dcap]] w _
 go_enter Tryz.func142,Tryz.ntmps142;go_wp2_with fail
 refine (B4q path _ HPZ.out).mono ?_;rintro e w1 ⟨rfl,hb⟩;have HB1:=Hi (((Below.refl _ _).alloc lr _).trans (hb.mono (by simp)));obtain ⟨hc1,_⟩:=C0b hb;have HB:=Hi hb;clear hb;by_cases hp0:A8b path=0
 ·rw [hp0];have HP0:=Hi hp0;clear hp0;go_wp2_with fail
  refine (C8f ⟨mode,uid,gid,user,group,second,nano⟩ _ HMO.out hN).mono ?_;rintro e w2 ⟨rfl,hb⟩;have HB2:=Hi (HB1.out.trans (hb.mono HB1.out.size));have hb2:=HB.out.trans (hb.mono HB.out.size);obtain ⟨hc2,_⟩:=C0b hb2;have HBB2:=Hi hb2;clear hb hb2 hc1;by_cases hm0:A9d ⟨mode,uid,gid,user,group,second,nano⟩=0
  ·rw [hm0];have HM0:=Hi hm0;clear hm0;rw [HP0.out,HM0.out] at HF;by_cases ht0:target.size=0
   ·have he:=A8h ht0;have hh:=D5t ht0
    all_goals
     first|rw [E0m hh] at HF|rw [E1m hh] at HF
     have HH:=Hi hh;clear hh;go_wp2_with (go_at_call 105;refine (A9m target 0 0 rfl _ HTZ.out).mono ?_;rintro e w' ⟨rfl,rfl⟩;rw [HH.out])
     all_goals
      first
       | (exfalso;(try simp only [<-List.length_eq_zero_iff,beq_iff_eq,beq_eq_false_iff_ne,bne_iff_ne,bne_eq_false_iff_eq,ne_eq] at *);omega)
       | (go_ret;exact ⟨A4e (HF.out _ (by (try simp only [<-List.length_eq_zero_iff,beq_iff_eq,beq_eq_false_iff_ne,bne_iff_ne,bne_eq_false_iff_eq,ne_eq] at *);unfold A0k;repeat (first|rw [if_pos (by omega)]|rw [if_neg (by omega)]|rw [if_pos rfl]|rw [if_neg (by decide)]))),HB2.out⟩)
   ·have he:=A9e ht0;rcases hix0.out with hh|hh
    all_goals
     first|rw [E0m hh] at HF|rw [E1m hh] at HF
     have HH:=Hi hh;clear hh;go_wp2_with (go_at_call 105;refine (A9m target 0 0 rfl _ HTZ.out).mono ?_;rintro e w' ⟨rfl,rfl⟩;rw [HH.out])
     all_goals
      first
       | (exfalso;(try simp only [<-List.length_eq_zero_iff,beq_iff_eq,beq_eq_false_iff_ne,bne_iff_ne,bne_eq_false_iff_eq,ne_eq] at *);omega)
       | (go_ret;exact ⟨A4e (HF.out _ (by (try simp only [<-List.length_eq_zero_iff,beq_iff_eq,beq_eq_false_iff_ne,bne_iff_ne,bne_eq_false_iff_eq,ne_eq] at *);unfold A0k;repeat (first|rw [if_pos (by omega)]|rw [if_neg (by omega)]|rw [if_pos rfl]|rw [if_neg (by decide)]))),HB2.out⟩)
  ·have HRR:=Hi (HF.out _ (show _=A9d ⟨mode,uid,gid,user,group,second,nano⟩ by unfold A0k;rw [if_neg (by rw [HP0.out];simp),if_pos hm0]));have hne:=hm0;generalize A9d ⟨mode,uid,gid,user,group,second,nano⟩=m at *;go_wp2;go_ret;exact ⟨A4e HRR.out,HB2.out⟩
 ·have HRR:=Hi (HF.out _ (show _=A8b path by unfold A0k;rw [if_pos hp0]));have hne:=hp0;generalize A8b path=p at *;go_wp2;go_ret;exact ⟨A4e HRR.out,HB1.out⟩
theorem D3s (x : Nod) (w : World) (h : x.Ok maxLen w) : Calls Tryz.prog 142 #[x.val] w fun e w' => e = .returned (.int .i64 (A6c x)) ∧ Below w.heap.size w w' :=
 D5k x w h.path h.target h.mt (by obtain ⟨_,_,_,_,_,h,_⟩:=h.data;exact h) h.kind h.same lr
theorem D3w (b off cap : Nat) (l : List Nod) (w : World) (hpos : 0 < l.length) (hle : l.length ≤ cap) (hm : cap ≤ maxLen) (hc : A5p w b off l) (ho : ∀ i,i < l.length → (nk l i).Ok maxLen w) :
 Calls Tryz.prog 78 #[.slice (some ⟨b,off,none⟩) l.length cap] w fun e w'=>e=.returned (.int .i64 (A0a l))/\Below w.heap.size w w':=by
 have hm':=hm;unfold maxLen at hm;have HC:=Hi hc;have HO:=Hi ho;have HCAP:=Hi hm';clear hc ho hm';by_cases hmany:40<l.length
 ·have HF:=Hi (A7t hmany);go_enter Tryz.func78,Tryz.ntmps78;go_wp2;go_ret;exact ⟨A4e HF.out,Below.refl _ _⟩
 have hfew:l.length<=40:=by omega
 clear hmany;go_enter Tryz.func78,Tryz.ntmps78;go_wp2;go_loopw [3,4,5,6,7,8,9] (fun i _ _ _ _ _ _ wr=>∃ k:Nat,k<=l.length/\i=.int .i64 k/\Hid (∀ j,j<k->A9k l j=0)/\Hid (Below w.heap.size w wr)) (fun i _ _ _ _ _ _ _=>l.length-(intOf i).toNat)
 case atStart=>exact ⟨0,by omega,rfl,Hi fun j hj=>absurd hj (by omega),Hi (Below.refl _ _)⟩
 case round =>
  obtain ⟨k,hk,rfl,HZ,HB⟩:=hrel;by_cases hlt:k<l.length
  ·obtain ⟨h0,h1,h2,h3,h4,h5,h6,h7,h8,h9,h10,h11⟩:=(HC.out.below HB.out) k hlt;have HX:=Hi ((HO.out k hlt).below HB.out);have HAT:=Hi (fun e=>A4v (e:=e) hfew hlt HZ.out);by_cases hA:A6c (nk l k)=0
   ·have HA:=Hi hA;clear hA;go_wp2_with fail
    have HBX:=Hi (A8t wr (nk l k) 99);refine (D3s _ _ (HX.out.below ((Below.refl _ _).alloc lr _))).mono ?_;rintro e w1 ⟨rfl,hb⟩;have HB1:=Hi ((HB.out.alloc HB.out.size _).trans (hb.mono (by simp;exact Nat.le_succ_of_le HB.out.size)));have HBX1:=Hi (HBX.out.below hb);rw [HA.out];clear hb h0 h1 h2 h3 h4 h5 h6 h7 h8 h9 h10 h11;generalize wr.heap.size=bx at *;obtain ⟨g0,g1,g2,g3,g4,g5,g6,g7,g8,g9,g10,g11⟩:=HBX1.out.zero;have HPZ:=Hi (fun (j:Nat) (hj:j<=k)=>show (nk l j).path.size<=1048576 from Nat.le_trans (B3o (by
     rcases Nat.lt_or_ge j k with h|h
     ·exact (B1e (HZ.out j h)).1
     ·rw [show j=k by omega];exact HA.out)) (by decide))
    go_upto_region 10 with fail
    go_cut [41] from 13 to 105 (fun u wc=>u=.bool (C0a l k)/\Hid (Below w1.heap.size w1 wc))
    case first =>
     by_cases hk0:k=0
     ·subst hk0;go_wp2;go_quiet (fail)
      go_wp2_with fail
      go_meet
      case rel=>exact ⟨rfl,Hi (A6a _ _ _)⟩
     ·obtain ⟨q,rfl⟩:∃ q,k=q+1:=⟨k-1,by omega⟩;obtain ⟨p0,_⟩:=(HC.out.below HB1.out) q (by omega);have hwq:IntKind.i64.wrap (q:Int)=(q:Int):=by rw [IntKind.wrap_i64];omega
      have hql:(q:Int)<(l.length:Int):=by omega
      go_wp2
      go_still_tail 11,(by kernel_rfl)
      go_wp2_with fail
      refine (B3q _ _ _ (HPZ.out q (by omega)) (HPZ.out (q+1) (by omega))).mono ?_;rintro e wc ⟨rfl,hb⟩;have HBC:=Hi ((Below.refl w1.heap.size w1).drew.trans hb);clear hb;go_wp2_with fail
      go_meet
      case rel=>exact ⟨congrArg Value.bool (F0c _ _),HBC⟩
    case rest =>
     obtain ⟨rfl,HBC⟩:=hcut;have HB2:=Hi (HB1.out.trans (HBC.out.mono HB1.out.size));have HBX2:=Hi (HBX1.out.below HBC.out);clear g0 g1 g2 g3 g4 g5 g6 g7 g8 g9 g10 g11;obtain ⟨g0,g1,g2,g3,g4,g5,g6,g7,g8,g9,g10,g11⟩:=HBX2.out.zero;by_cases hO:C1p l k
     ·have HOK:=Hi hO;rw [E6j hO];clear hO;go_wp2_with fail
      refine (C6f _ _ (Nat.le_trans (HPZ.out k lr) (by decide))).mono ?_;rintro e w2 ⟨rfl,hb⟩;have HB3:=Hi (HB2.out.trans (hb.mono HB2.out.size));have HBX3:=Hi (HBX2.out.below hb);clear hb g0 g1 g2 g3 g4 g5 g6 g7 g8 g9 g10 g11;obtain ⟨g0,g1,g2,g3,g4,g5,g6,g7,g8,g9,g10,g11⟩:=HBX3.out.zero;have htk:(l.take k).length=k:=by rw [List.length_take];omega
      have hfind:=C6x b off cap (l.take k) (A2f (nk l k).path) w2 (by omega) HCAP.out ((HC.out.below HB3.out).take k);rw [htk] at hfind;have HFI:=Hi hfind;have htl:=A8y (l.take k) (A2f (nk l k).path);rw [htk] at htl;have hkc:k<=cap:=by omega
      clear hfind htk;have HUP:=Hi (show E2y l k↔((A2f (nk l k).path).size≠0->A1a (l.take k) (A2f (nk l k).path)<k/\(nk l (A1a (l.take k) (A2f (nk l k).path))).kind=2) from Iff.rfl);generalize hn:A1a (l.take k) (A2f (nk l k).path)=n at HFI HUP htl;generalize hup:A2f (nk l k).path=up at HFI HUP;have HUQ:=Hi hup;clear hn hup;go_upto_region 14 with (first|(go_at_call 71;refine HFI.out.mono ?_;rintro e w' ⟨rfl,rfl⟩))
      go_cut [67] from 13 to 105 (fun u wc=>u=.bool (!D3f l k)/\wc=w2)
      case first =>
       by_cases h0:up.size=0
       ·have HU:=Hi (show D3f l k=true from E7y (HUP.out.2 fun e=>absurd h0 e));have he:=A8h h0;clear h0;go_wp2_with fail
        go_meet
        case rel=>exact ⟨by rw [HU.out];rfl,rfl⟩
       ·have he:=A9e h0;by_cases hnk:n=k
        ·have HU:=Hi (show D3f l k=false from E8y (fun e=>by have:=(HUP.out.1 e h0).1;omega));clear h0;subst hnk;go_wp2_with fail
         go_meet
         case rel=>exact ⟨by rw [HU.out];rfl,rfl⟩
        ·obtain ⟨_,q1,_⟩:=(HC.out.below HB3.out) n (by omega);have hd:((n:Int)==(k:Int))=false:=by rw [beq_eq_false_iff_ne];omega
         by_cases hkd:(nk l n).kind=2
         ·have HU:=Hi (show D3f l k=true from E7y (HUP.out.2 fun e=>⟨by omega,hkd⟩));have hd2:((nk l n).kind != 2)=false:=by rw [hkd];rfl
          go_wp2_with fail
          go_meet
          case rel=>exact ⟨by rw [HU.out];rfl,rfl⟩
         ·have HU:=Hi (show D3f l k=false from E8y (fun e=>hkd (HUP.out.1 e h0).2));have hd2:((nk l n).kind != 2)=true:=by rw [bne_iff_ne];exact hkd
          go_wp2_with fail
          go_meet
          case rel=>exact ⟨by rw [HU.out];rfl,rfl⟩
      case rest =>
       obtain ⟨rfl,rfl⟩:=hcut;clear HFI HUP HUQ htl;by_cases hU:E2y l k
       ·rw [E7y hU];have HUO:=Hi hU;clear hU;by_cases hs0:(nk l k).same=0
        ·have HS:=Hi (B7c HA.out HOK.out HUO.out (.inl hs0));have hsd:((nk l k).same==0)=true:=by rw [hs0];rfl
         clear hs0;go_wp2;go_roundw
         case rel=>exact ⟨k+1,by omega,by go_num,Hi fun j hj=>by
          by_cases e:j=k
          ·rw [e];exact HS.out
          ·exact HZ.out j (by omega),HB3⟩
         case measure=>simp [intOf];omega
        ·have HS0:=Hi hs0;have hsd:((nk l k).same==0)=false:=by rw [beq_eq_false_iff_ne];exact hs0
         clear hs0;go_wp2;go_loopw [9] (fun i wr2=>∃ j:Nat,j<=k/\i=.int .i64 j/\Hid (∀ q,q<j->(nk l q).same=(nk l k).same->A5x (nk l q) (nk l k)=true)/\Hid (Below wc.heap.size wc wr2)) (fun i _=>k-(intOf i).toNat)
         case atStart=>exact ⟨0,by omega,rfl,Hi fun j hj=>absurd hj (by omega),Hi (Below.refl _ _)⟩
         case round =>
          obtain ⟨j,hj,rfl,HD,HBI⟩:=hrel;clear g0 g1 g2 g3 g4 g5 g6 g7 g8 g9 g10 g11;by_cases hjk:j<k
          ·have HBXI:=Hi (HBX3.out.below HBI.out);have HNI:=Hi (((HC.out.below HB3.out).below HBI.out) j (by omega));have HXI:=Hi ((((HO.out k hlt).below HB3.out).below HBI.out).data);have HYI:=Hi ((((HO.out j (by omega)).below HB3.out).below HBI.out).data);have hjl:(j:Int)<(l.length:Int):=by omega
           go_upto_region 20 with fail
           go_cut [105] from 71 to 105 (fun u wd=>u=.bool (E6n (nk l j) (nk l k))/\Hid (Below wr.heap.size wr wd))
           case first =>
            obtain ⟨g0,g1,g2,g3,g4,g5,g6,g7,g8,g9,g10,g11⟩:=HBXI.out.zero;obtain ⟨y0,y1,y2,y3,y4,y5,y6,y7,y8,y9,y10,y11⟩:=HNI.out;have hcx:∀ n,(convert 24 9 (.slice (nk l k).da (nk l k).data.length (nk l k).dcap)).run Tryz.prog (wr.drewN n)=.ok (.string (ofL (nk l k).data)) (wr.drewN n):=fun n=>conv _ (HXI.out.below (fun _ _ h=>h) (A6a _ _ n))
            have hcy:∀ n,(convert 24 9 (.slice (nk l j).da (nk l j).data.length (nk l j).dcap)).run Tryz.prog (wr.drewN n)=.ok (.string (ofL (nk l j).data)) (wr.drewN n):=fun n=>conv _ (HYI.out.below (fun _ _ h=>h) (A6a _ _ n))
            by_cases hsm:(nk l j).same=(nk l k).same
            ·have hsd2:((nk l j).same==(nk l k).same)=true:=by rw [hsm];simp
             by_cases hmt:(nk l j).mt=(nk l k).mt
             ·have e0:=congrArg Meta.mode hmt;have e1:=congrArg Meta.uid hmt;have e2:=congrArg Meta.gid hmt;have e3:(nk l j).mt.user.toList=(nk l k).mt.user.toList:=by rw [hmt]
              have e4:(nk l j).mt.group.toList=(nk l k).mt.group.toList:=by rw [hmt]
              have e5:=congrArg Meta.second hmt;have e6:=congrArg Meta.nano hmt;by_cases hdt:(nk l j).data=(nk l k).data
              ·have HBAD:=Hi (show E6n (nk l j) (nk l k)=false by unfold E6n;rw [E0d hmt hdt];simp);have hdd:((ofL (nk l j).data).toList==(ofL (nk l k).data).toList)=true:=by rw [hdt];simp
               clear hmt hdt;go_quiet (fail)
               go_wp2_with fail
               go_meet
               case rel=>exact ⟨by rw [HBAD.out],Hi (A6a _ _ _)⟩
              ·have HBAD:=Hi (show E6n (nk l j) (nk l k)=true by unfold E6n;rw [F5d hdt,hsm];simp);have hdd:((ofL (nk l j).data).toList==(ofL (nk l k).data).toList)=false:=A5w (fun e=>hdt (F4c e));clear hmt hdt;go_quiet (fail)
               go_wp2_with fail
               go_meet
               case rel=>exact ⟨by rw [HBAD.out],Hi (A6a _ _ _)⟩
             ·have HBAD:=Hi (show E6n (nk l j) (nk l k)=true by unfold E6n;rw [F4d hmt,hsm];simp);clear hcx hcy;rcases E4s hmt with e0|⟨e0,e1⟩|⟨e0,e1,e2⟩|⟨e0,e1,e2,e3⟩|⟨e0,e1,e2,e3,e4⟩|⟨e0,e1,e2,e3,e4,e5⟩|⟨e0,e1,e2,e3,e4,e5,e6⟩
              all_goals clear hmt
              all_goals go_quiet (fail)
              all_goals go_wp2_with fail
              all_goals go_meet
              all_goals exact ⟨by rw [HBAD.out],Hi (A6a _ _ _)⟩
            ·have HBAD:=Hi (show E6n (nk l j) (nk l k)=false by unfold E6n;rw [decide_eq_false hsm];rfl);have hsd2:((nk l j).same==(nk l k).same)=false:=by rw [beq_eq_false_iff_ne];exact hsm
             clear hcx hcy hsm;go_quiet (fail)
             go_wp2_with fail
             go_meet
             case rel=>exact ⟨by rw [HBAD.out],Hi (A6a _ _ _)⟩
           case rest =>
            obtain ⟨rfl,HBD⟩:=hcut;have HBI2:=Hi (HBI.out.trans (HBD.out.mono HBI.out.size));cases hbad:E6n (nk l j) (nk l k) with
            | true =>
              have HF:=Hi (HAT.out 11 (C2h HA.out HOK.out HUO.out HS0.out hjk (bad_t hbad).1 (bad_t hbad).2) (by decide));clear hbad;go_wp2;go_ret;exact ⟨A4e HF.out,HB3.out.trans (HBI2.out.mono HB3.out.size)⟩
            | false =>
              have HBF:=Hi hbad;clear hbad;go_wp2;go_roundw
              case rel=>exact ⟨j+1,by omega,by go_num,Hi fun q hq he=>by
               by_cases e:q=j
               ·rw [e] at he ⊢;exact bad_f HBF.out he
               ·exact HD.out q (by omega) he,HBI2⟩
              case measure=>simp [intOf];omega
          ·obtain rfl:j=k:=by omega
           have HS:=Hi (B7c HA.out HOK.out HUO.out (.inr HD.out));have HB4:=Hi (HB3.out.trans (HBI.out.mono HB3.out.size));go_wp2;go_roundw
           case rel=>exact ⟨j+1,by omega,by go_num,Hi fun q hq=>by
            by_cases e:q=j
            ·rw [e];exact HS.out
            ·exact HZ.out q (by omega),HB4⟩
           case measure=>simp [intOf];omega
       ·have HF:=Hi (HAT.out 10 (C1r HA.out HOK.out hU) (by decide));rw [E8y hU];clear hU;go_wp2;go_ret;exact ⟨A4e HF.out,HB3.out⟩
     ·have HF:=Hi (HAT.out 6 (C2r HA.out (D2h hO).1 (D2h hO).2) (by decide));rw [E5j hO];clear hO;go_wp2;go_ret;exact ⟨A4e HF.out,HB2.out⟩
   ·have HF:=Hi (HAT.out _ (C3r hA) hA);go_wp2_with fail
    refine (D3s _ _ (HX.out.below ((Below.refl _ _).alloc lr _))).mono ?_;rintro e w1 ⟨rfl,hb⟩;have HB1:=Hi ((HB.out.alloc HB.out.size _).trans (hb.mono (by simp;exact Nat.le_succ_of_le HB.out.size)));clear hb h0 h1 h2 h3 h4 h5 h6 h7 h8 h9 h10 h11;generalize A6c (nk l k)=q at *;go_wp2;go_ret;exact ⟨A4e HF.out,HB1.out⟩
  ·obtain rfl:k=l.length:=by omega
   have HF:=Hi (A3v hfew HZ.out);go_wp2;go_ret;exact ⟨A4e HF.out,HB.out⟩
theorem D7j (a : Option Addr) (cap : Nat) (w : World) :
 Calls Tryz.prog 78 #[.slice a 0 cap] w fun e w'=>e=.returned (.int .i64 0)/\w=w':=by
 go_enter Tryz.func78,Tryz.ntmps78;go_wp2
 go_loop [3,4,5,6,7,8,9] (fun i _ _ _ _ _ _=>i=.int .i64 0) (fun _ _ _ _ _ _ _=>0)
 case atStart=>rfl
 case round =>
  obtain rfl:=hrel;go_wp2;go_ret;exact ⟨rfl,rfl⟩
theorem D6j {N : Nat} (x : Nod) (w : World) (hM : A1n w) (hp : x.path.size ≤ N) (ht : x.target.size ≤ N) (hm : x.mt.Ok N) (hd : x.data.length ≤ maxLen) (hk : i64 x.kind) (hs : i64 x.same) (hN : N ≤ maxLen) :
 Calls Tryz.prog 134 #[x.val] w fun e w'=>e=.returned (.int .i64 (A6c x))/\Below w.heap.size w w':=by
 obtain ⟨path,kind,same,target,⟨mode,uid,gid,user,group,second,nano⟩,da,dcap,data⟩:=x;unfold maxLen at hd;have HPZ:=Hi (Nat.le_trans hp hN);have HTZ:=Hi (Nat.le_trans ht hN);have htz:=Nat.le_trans ht hN;unfold maxLen at htz;have HMO:=Hi hm;have HM:=Hi hM;have hk2:=hk;have hs2:=hs;unfold i64 at hk2 hs2;have hix:=B5g target 0;have HF:Hid (∀ c,A0k (A8b path) (A9d ⟨mode,uid,gid,user,group,second,nano⟩) kind same data.length target.size (hasN target)=c->A6c ⟨path,kind,same,target,⟨mode,uid,gid,user,group,second,nano⟩,da,dcap,data⟩=c):=Hi fun c h=>h
 generalize hR:A6c _=R at *;clear hp ht hm hM hk hs hR;have hix0:Hid (A8k target 0=true\/A8k target 0=false):=Hi (by cases A8k target 0<;>simp);show Calls Tryz.prog 134 #[.agg #[.string path,.int .i64 kind,.int .i64 same,.string target,.int .i64 mode,.int .i64 uid,.int .i64 gid,.string user,.string group,.int .i64 second,.int .i64 nano,.slice da data.length dcap]] w _
 go_enter Tryz.func134,Tryz.ntmps134;go_wp2_with fail
 refine (B5q path _ (HM.out.below ((Below.refl _ _).alloc lr _)) HPZ.out).mono ?_;rintro e w1 ⟨rfl,hb⟩;have HB1:=Hi (((Below.refl _ _).alloc lr _).trans (hb.mono (by simp)));obtain ⟨hc1,_⟩:=C0b hb;have HB:=Hi hb;clear hb;by_cases hp0:A8b path=0
 ·rw [hp0];have HP0:=Hi hp0;clear hp0;go_wp2_with fail
  refine (C9f ⟨mode,uid,gid,user,group,second,nano⟩ _ HMO.out hN).mono ?_;rintro e w2 ⟨rfl,hb⟩;have HB2:=Hi (HB1.out.trans (hb.mono HB1.out.size));have hb2:=HB.out.trans (hb.mono HB.out.size);obtain ⟨hc2,_⟩:=C0b hb2;have HBB2:=Hi hb2;clear hb hb2 hc1;by_cases hm0:A9d ⟨mode,uid,gid,user,group,second,nano⟩=0
  ·rw [hm0];have HM0:=Hi hm0;clear hm0;rw [HP0.out,HM0.out] at HF;by_cases ht0:target.size=0
   ·have he:=A8h ht0;have hh:=D5t ht0
    all_goals
     first|rw [E0m hh] at HF|rw [E1m hh] at HF
     rw [hh] at hix;go_wp2_with (go_at_call 84;refine (A6b _ _ _).mono ?_;rintro e w' ⟨rfl,rfl⟩)
     all_goals
      first
       | (exfalso;(try simp only [<-List.length_eq_zero_iff,beq_iff_eq,beq_eq_false_iff_ne,bne_iff_ne,bne_eq_false_iff_eq,ne_eq] at *);omega)
       | (go_ret;exact ⟨A4e (HF.out _ (by (try simp only [<-List.length_eq_zero_iff,beq_iff_eq,beq_eq_false_iff_ne,bne_iff_ne,bne_eq_false_iff_eq,ne_eq] at *);unfold A0k;repeat (first|rw [if_pos (by omega)]|rw [if_neg (by omega)]|rw [if_pos rfl]|rw [if_neg (by decide)]))),HB2.out⟩)
   ·have he:=A9e ht0;rcases hix0.out with hh|hh
    all_goals
     first|rw [E0m hh] at HF|rw [E1m hh] at HF
     rw [hh] at hix;go_wp2_with (go_at_call 84;refine (A6b _ _ _).mono ?_;rintro e w' ⟨rfl,rfl⟩)
     all_goals
      first
       | (exfalso;(try simp only [<-List.length_eq_zero_iff,beq_iff_eq,beq_eq_false_iff_ne,bne_iff_ne,bne_eq_false_iff_eq,ne_eq] at *);omega)
       | (go_ret;exact ⟨A4e (HF.out _ (by (try simp only [<-List.length_eq_zero_iff,beq_iff_eq,beq_eq_false_iff_ne,bne_iff_ne,bne_eq_false_iff_eq,ne_eq] at *);unfold A0k;repeat (first|rw [if_pos (by omega)]|rw [if_neg (by omega)]|rw [if_pos rfl]|rw [if_neg (by decide)]))),HB2.out⟩)
  ·have HRR:=Hi (HF.out _ (show _=A9d ⟨mode,uid,gid,user,group,second,nano⟩ by unfold A0k;rw [if_neg (by rw [HP0.out];simp),if_pos hm0]));have hne:=hm0;generalize A9d ⟨mode,uid,gid,user,group,second,nano⟩=m at *;go_wp2;go_ret;exact ⟨A4e HRR.out,HB2.out⟩
 ·have HRR:=Hi (HF.out _ (show _=A8b path by unfold A0k;rw [if_pos hp0]));have hne:=hp0;generalize A8b path=p at *;go_wp2;go_ret;exact ⟨A4e HRR.out,HB1.out⟩
end Go.Proofs.YtaffgndickdbiaaGreatDoor
