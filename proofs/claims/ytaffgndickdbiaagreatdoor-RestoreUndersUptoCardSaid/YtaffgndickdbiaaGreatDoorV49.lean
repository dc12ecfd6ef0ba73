/- A part of the proof. -/
import Derived.Test.YtaffgndickdbiaaGreatDoorV48
import Derived.LaidLaws
set_option linter.unusedVariables false
set_option linter.unusedSimpArgs false
set_option maxRecDepth 100000
set_option maxHeartbeats 4000000
namespace Go.Creel
theorem C9z {N : Nat} {w : World} {x : Nod} {dir : ByteArray} {a : Int} (h : x.Ok N w) (hN : 1000 ≤ N) (hd : dir.size ≤ 400) (hc : Comes x) (ha : 0 ≤ a ∧ a ≤ 1000) : (A4g a dir x).Ok N w := by
 obtain ⟨h1,h2,h3,h4,h5,h6⟩:=h;have e:=hc.path;have s0:=hc.same0;have s1:=hc.same1;refine ⟨?_,h2,?_,h4,h5,h6⟩
 ·show (dir++⟨#[47]⟩++x.path).size<=N
  rw [ByteArray.size_append,ByteArray.size_append];show dir.size+1+x.path.size<=N
  omega
 ·show i64 (if 0<x.same then x.same+a else x.same)
  unfold i64 at h3 ⊢;split<;>omega
theorem C1m {x : Nod} {dir : ByteArray} {a : Int} (hd : dir.size ≤ 400) (hc : Comes x) : (A4g a dir x).path.size ≤ 1048576 := by
 have e:=hc.path;show (dir++⟨#[47]⟩++x.path).size<=_
 rw [ByteArray.size_append,ByteArray.size_append];show dir.size+1+x.path.size<=_
 omega
theorem D1n {x : Nod} {dir : ByteArray} {a : Int} (h : 0 < x.same) : A4g a dir x = { x with path := dir ++ ⟨#[47]⟩ ++ x.path,same := x.same + a } := by unfold A4g; rw [if_pos h]
theorem D2n {x : Nod} {dir : ByteArray} {a : Int} (h : ¬ 0 < x.same) : A4g a dir x = { x with path := dir ++ ⟨#[47]⟩ ++ x.path } := by unfold A4g; rw [if_neg h]
theorem A2a.opened {t : TypeId} {w : World} {B : Nat} {v : Value} {l : List Nod} (h : A2a t w B v l) : ∃ a cap,v = .slice a l.length cap ∧ l.length ≤ cap ∧ cap ≤ maxLen ∧ ∀ k,k < l.length → ∃ g,a = some ⟨g,0,none⟩ := by
 rcases h.form with ⟨rfl,rfl⟩|⟨g,cap,rfl,_,_,h1,h2⟩
 ·exact ⟨none,0,rfl,Nat.le_refl _,Nat.zero_le _,fun k hk=>absurd hk (by simp)⟩
 ·exact ⟨_,cap,rfl,h1,h2,fun _ _=>⟨g,rfl⟩⟩
open Go.RowKit
theorem C6j {P : Program} {W : World} {name tn : String} {dd : DataW Unit} {g : Nat} {t : TypeId} {ms : Array (String × TypeId)}
 (hg:P.globalNamed name=some g) (hty:(P.globals[g]?).map (·.type)=some t) (ht:P.underlying t=some (.interface ms)) :
 ∀ (laid:List (String×DataW Unit)) (ps:List MemPlace) (i:Nat),DataW.LaidVars P W laid ps->laid[i]?=some (name,.iface tn dd)->E5x W g
 | [],_,i,_,hi=>by simp at hi
 | (n',d)::r,ps,0,h,hi=>by
   obtain ⟨g',t',cs,fuel,p,q,hg',ht',hvar,hd,_,_⟩:=h;simp only [List.getElem?_cons_zero,Option.some.injEq,Prod.mk.injEq] at hi;obtain ⟨rfl,rfl⟩:=hi;obtain rfl:=Option.some.inj (hg.symm.trans hg');obtain rfl:=Option.some.inj (hty.symm.trans ht');obtain ⟨_,u,v,hcs,_,_⟩:=iface_of_trod ht hd;have h0:=World.var?_cell hg hvar 0;have h1:cs[0]?=some (.iface u v):=by rw [<-Array.getElem?_toList,hcs];rfl
   exact ⟨_,h0.trans h1,.inr ⟨_,_,rfl⟩⟩
 | (n',d)::r,ps,i+1,h,hi=>by
   obtain ⟨g',t',cs,fuel,p,q,hg',ht',hvar,hd,hr,_⟩:=h;exact C6j hg hty ht r q i hr (by simpa using hi)
theorem E9u {w : World} {v : Value} {l : List UInt8} (h : A4a 1048576 1 A1e w [v] l) : A4a maxLen 1 A1e w [v] l ∧ l.length ≤ 1048576 := by
 obtain ⟨a,cap,hv,h1,h2,h3,h4,h5⟩:=h;exact ⟨⟨a,cap,hv,h1,h2,Nat.le_trans h3 (by unfold maxLen;decide),h4,h5⟩,h3⟩
end Go.Creel
namespace Go.Proofs.YtaffgndickdbiaaGreatDoor
open Go.Creel Go.RowKit
theorem D4s {w : World} {b : Nat} {x : Nod} {t : TypeId} (h : w.heap[b]? = some (.cells #[.string x.path,.int .i64 x.kind,.int .i64 x.same,.string x.target,.int .i64 x.mt.mode,.int .i64 x.mt.uid,.int .i64 x.mt.gid,.string x.mt.user,.string x.mt.group,.int .i64 x.mt.second,.int .i64 x.mt.nano,.slice x.da x.data.length x.dcap] t (0,0))) : B4u w b 0 x :=
 ⟨cellAt h rfl,cellAt h rfl,cellAt h rfl,cellAt h rfl,cellAt h rfl,cellAt h rfl,cellAt h rfl,cellAt h rfl,cellAt h rfl,cellAt h rfl,cellAt h rfl,cellAt h rfl⟩
theorem E1w (v : Value) (t : List Nod) (dir : ByteArray) (vb : Value) (b : List UInt8) (w : World) (ht : A4a maxLen 12 (B6b maxLen) w [v] t) (h : A4a maxLen 1 A1e w [vb] b) (hbl : b.length ≤ 1048576) (hM : A1n w) (hE : A6p w) (hT : A7m w) :
 Calls Tryz.prog 34 #[v,.string dir,vb] w (B4j 99 w (A6h 40 t dir b)):=by
 have HCT:=Hi (A9h v t w hM ht);have HRS:=Hi (fun W (hb:Below w.heap.size w W)=>F0s vb b W (A3b h hb) hbl (hM.below hb) (hE.below hb) (hT.below hb));have HAN:=Hi (fun W (hb:Below w.heap.size w W)=>D3z v t W (hM.below hb) (A8c ht hb));have HH:=Hi ht;have HM:=Hi hM;have HQ1:=Hi (C9m (a:=40) (t:=t) (dir:=dir) (b:=b));have HQ2:=Hi (C3c (a:=40) (t:=t) (dir:=dir) (b:=b));have HQ3:=Hi (C9r (a:=40) (t:=t) (dir:=dir) (b:=b));obtain ⟨⟨l,e0⟩,hk⟩:∃ q,A4j b=q:=⟨_,rfl⟩;have HQ4:=Hi (fun h h1 h2 he=>C4c (a:=40) (t:=t) (dir:=dir) (b:=b) h h1 h2 hk he);have HQ5:=Hi (fun h h1 h2 he=>C0s (a:=40) (t:=t) (dir:=dir) (b:=b) h h1 h2 hk he);have HCO:=Hi (fun (c:List Nod) he h=>D5v (c:=c) hk he h);have hlen:=C8m b;rw [hk] at HRS hlen;simp only at hlen;generalize A6h 40 t dir b=U at *;clear ht h hM hE hT hk;go_enter Tryz.func34,Tryz.ntmps34;go_wp2_with fail
 refine HCT.out.mono ?_;rintro e w1 ⟨rfl,hb⟩;have HB1:=Hi hb;clear hb HCT;by_cases hf:A0a t=0
 ·have hfq:(A0a t != 0)=false:=by rw [hf];rfl
  have HFI:=Hi (C1g v t dir w1 (A8c HH.out HB1.out));by_cases hfd:A1a t dir<t.length
  ·have HDS:=Hi (D8u hf hfd);have hfi:A0u (A1a t dir) t.length=((A1a t dir:Int),0):=if_pos hfd;rw [hfi] at HFI;clear hfi;rcases A1g HH.out with ⟨a,cap,rfl,rfl,_⟩|⟨g,off,cap,rfl,hg1,hg2,hg3,hg6,hg4,hg5⟩
   ·exact absurd hfd (by simp)
   have HNA:=Hi hg4;unfold maxLen at hg3;clear hg4 hg5 hg6;go_wp2_with fail
   refine HFI.out.mono ?_;rintro e w2 ⟨rfl,hb⟩;have HB2:=Hi (HB1.out.trans (hb.mono HB1.out.size));clear hb;obtain ⟨h0,h1,h2,h3,h4,h5,h6,h7,h8,h9,h10,h11⟩:=(HNA.out.below HB2.out) (A1a t dir) hfd;have HKD:=Hi (fun he hu=>HQ3.out he hfd hu);have HK4:=Hi (fun he hu=>HQ4.out he hfd hu);have HK5:=Hi (fun he hu=>HQ5.out he hfd hu);generalize hix:nk t (A1a t dir)=xd at *;clear hix HQ3 HQ4 HQ5 HQ1 HQ2 HFI;by_cases hd:xd.kind=2
   ·have hdq:(xd.kind != 2)=false:=by rw [hd];rfl
    have HK4:=Hi (fun he=>HK4.out hf hd he);have HK5:=Hi (fun he=>HK5.out hf hd he);clear HKD;go_wp2_with fail
    refine (HRS.out _ HB2.out).mono ?_;rintro e w3 ⟨v3,c,rfl,ho,hc,hb⟩;have HB3:=Hi (HB2.out.trans (hb.mono HB2.out.size));have HO3:=Hi ho;have HC3:=Hi hc;simp only at HC3;clear ho hc hb h0 h1 h2 h3 h4 h5 h6 h7 h8 h9 h10 h11 HRS;by_cases he:e0=0
    ·subst he;have HCM:=Hi (HCO.out _ rfl HC3.out);have hcl:c.length<=40:=by rw [A5i HC3.out];exact hlen
     have HUQ:=HK5.out rfl;subst HUQ;have HAQ:=Hi (A8u hf);have HA:=Hi (HAN.out _ HB3.out);rw [HAQ.out] at HA;clear HAN HK4 HK5 HAQ;go_wp2_with fail
     refine HA.out.mono ?_;rintro e w4 ⟨v4,o4,rfl,ho,hc,hb⟩;have HB4:=Hi (HB3.out.trans (hb.mono HB3.out.size));have HO4:=Hi (ho.mono HB3.out.size);have HC4:=Hi (HO3.out.below hb);have HL4:=Hi (show o4.length<=40 by rw [A5i hc,C2f];exact (A2b hf).1);have HG4:=Hi (TGo.start (a:=40) (dir:=dir) hc HC3.out);generalize A4o 40 dir (B8p t) l=U at *;clear ho hc hb HA HC3 HO3;obtain ⟨ac,capc,rfl,hcap,hcm,hac⟩:=HC4.out.opened;have HAC:=Hi hac;clear hac;unfold maxLen at hcm;go_wp2_with fail
     go_loopw [12,13,16,17,18,54] (fun _ v13 _ _ _ i wr=>∃ (k:Nat) (vo:Value) (o:List Nod),k<=c.length/\i=.int .i64 (k:Int)/\vo=v13/\Hid (A2a 99 wr w.heap.size vo o)/\Hid (o.length<=40)/\Hid (TGo 40 dir o (c.drop k) U)/\Hid (Below w4.heap.size w4 wr)/\Hid (Below w.heap.size w wr)) (fun _ v13 _ _ _ i _=>c.length-(intOf i).toNat)
     case atStart=>exact ⟨0,_,o4,by omega,rfl,rfl,HO4,HL4,HG4,Hi (Below.refl _ _),HB4⟩
     case round =>
      obtain ⟨k,vo,o,hk,rfl,rfl,HOW,HOL,HTG,HBC,HB⟩:=hrel;by_cases hlt:k<c.length
      ·obtain ⟨gc,rfl⟩:=HAC.out k hlt;obtain ⟨h0,h1,h2,h3,h4,h5,h6,h7,h8,h9,h10,h11⟩:=(HC4.out.nodAt hlt).below HBC.out;have HXN:=Hi ((HC4.out.nodIn hlt).below HBC.out).1;have HX:=Hi (HCM.out k hlt);have HBAD:=Hi (fun (o2:List Nod) h2 he=>TGo.bad (o2:=o2) HTG.out hlt h2 he);have HNXT:=Hi (fun (o2 o3:List Nod) h2 he h3=>TGo.next (o2:=o2) (o3:=o3) HTG.out hlt h2 he h3);generalize nk c k=x at *;have HBX:=Hi ((Below.refl wr.heap.size wr).alloc lr (A4h x));have HBZ:=Hi (heap_alloc_new wr (A4h x));have HYO:=Hi (C9z (a:=40) HXN.out (by unfold maxLen;omega) HDS.out HX.out (by omega));have HYS:=Hi (C1m (a:=40) HDS.out HX.out);have HYD:=Hi (show (A4g 40 dir x).data.length<=140737488355328 from Nat.le_trans HX.out.data (by omega));have hxs:=HX.out.same1;have hxp:=HX.out.path;have hds:=HDS.out;clear HTG;go_upto_if 66 with fail
       generalize hkb:decide (0<x.same)=kb at *;have HKB:=Hi hkb;clear hkb;go_cut [] from 67 to 70 (fun wx=>Hid (wx.heap[wr.heap.size]?=some (A4h (A4g 40 dir x)))/\Hid (Below wr.heap.size wr wx))
       case first =>
        cases kb with
        | true =>
          have hs0:0<x.same:=of_decide_eq_true HKB.out;have HS:=Hi (D1n (a:=40) (dir:=dir) (of_decide_eq_true HKB.out));go_wp2;go_meet;exact ⟨Hi (by rw [HS.out];exact heap_alloc_new _ _),Hi ((Below.refl _ _).alloc lr _)⟩
        | false =>
          have HS:=Hi (D2n (a:=40) (dir:=dir) (of_decide_eq_false HKB.out));go_wp2;go_meet;exact ⟨Hi (by rw [HS.out];exact heap_alloc_new _ _),Hi ((Below.refl _ _).alloc lr _)⟩
       case rest =>
        obtain ⟨HYR,HBY⟩:=hcut;obtain ⟨wx,rfl⟩:∃ W,W=wc:=⟨_,rfl⟩;generalize A4g 40 dir x=y at *;clear HBX HBZ h0 h1 h2 h3 h4 h5 h6 h7 h8 h9 h10 h11 HXN HX hxs hxp hds;have HNY:=Hi (D4s HYR.out);have HOY:=Hi (HOW.out.below HBY.out);have HBB:=Hi (HB.out.trans (HBY.out.mono HB.out.size));have HFD:=Hi (C1g _ o y.path wx (HOY.out.slice (Nat.le_trans HOL.out (by unfold maxLen;omega))));generalize hfi:A0u (A1a o y.path) o.length=fi at *;obtain ⟨f1,f2⟩:=fi;have HFI:=Hi hfi;clear hfi;have n0:=HNY.out.zero.1;go_wp2_with fail
        refine HFD.out.mono ?_;rintro e wz ⟨rfl,hb⟩;have HBZ:=Hi (hb);clear hb;have HNZ:=Hi (HNY.out.below HBZ.out);have HOZ:=Hi (HOY.out.below HBZ.out);clear HNY n0;go_upto_region 20 with fail
        go_cut [92] from 78 to 92 (fun u wy=>u=.bool (goB o y)/\wy=wz)
        case first =>
         obtain ⟨n0,n1,n2,n3,n4,n5,n6,n7,n8,n9,n10,n11⟩:=HNZ.out.zero;by_cases hfd:A1a o y.path<o.length
         ·rcases HOZ.out.form with ⟨rfl,rfl⟩|⟨go,capo,rfl,hgB,hgw,hco,hcmo⟩
          ·exact absurd hfd (by simp)
          unfold maxLen at hcmo;obtain ⟨z0,z1,z2,z3,z4,z5,z6,z7,z8,z9,z10,z11⟩:=HOZ.out.nodAt hfd;have HG1:=Hi (fun h1 h2=>E4m (l:=o) (y:=y) h1 h2);have HG2:=Hi (fun h1=>F0f (l:=o) (y:=y) hfd h1);have HG3:=Hi (fun h1=>F1f (l:=o) (y:=y) hfd h1);have hfi:=HFI.out;rw [show A0u (A1a o y.path) o.length=((A1a o y.path:Int),0) from if_pos hfd] at hfi;obtain ⟨rfl,rfl⟩:=Prod.mk.inj hfi;generalize nk o (A1a o y.path)=z at *;generalize A1a o y.path=ix at *;by_cases hz:z.kind=2
          ·have hz1:(z.kind != 2)=false:=by rw [hz];rfl
           by_cases hy:y.kind=2
           ·have hy1:(y.kind != 2)=false:=by rw [hy];rfl
            have HGQ:=Hi (HG1.out hz hy);clear hz hy;go_wp2;go_meet;exact ⟨by rw [HGQ.out],rfl⟩
           ·have hy1:(y.kind != 2)=true:=by rw [bne_iff_ne];exact hy
            have HGQ:=Hi (HG3.out hy);clear hz hy;go_wp2;go_meet;exact ⟨by rw [HGQ.out],rfl⟩
          ·have hz1:(z.kind != 2)=true:=by rw [bne_iff_ne];exact hz
           have HGQ:=Hi (HG2.out hz);clear hz;go_wp2;go_meet;exact ⟨by rw [HGQ.out],rfl⟩
         ·have HGQ:=Hi (E3m (l:=o) (y:=y) hfd);have hfi:=HFI.out;rw [show A0u (A1a o y.path) o.length=(0,5) from if_neg hfd] at hfi;obtain ⟨rfl,rfl⟩:=Prod.mk.inj hfi;go_wp2;go_meet;exact ⟨by rw [HGQ.out],rfl⟩
        case rest =>
         obtain ⟨rfl,rfl⟩:=hcut;obtain ⟨wz,rfl⟩:∃ W:World,W=wc:=⟨_,rfl⟩;have HGT:=Hi (fun h=>D4n (l:=o) (y:=y) h);have HGF:=Hi (fun h=>D5n (l:=o) (y:=y) h);generalize goB o y=qq at *;generalize A4u o y=og at *;have HBV:=Hi (HBB.out.trans (HBZ.out.mono HBB.out.size));have HYV:=Hi (HYO.out.below (HBY.out.trans (HBZ.out.mono HBY.out.size)));have HBCV:=Hi (HBC.out.trans ((HBY.out.trans (HBZ.out.mono HBY.out.size)).mono HBC.out.size));clear HOY HYO HYR HOW HBB HB HBC HBY HBZ HFD HFI;go_step;go_cut [13,92] from 93 to 99 (fun u13 _ wv=>∃ (v2:Value) (o2:List Nod),u13=v2/\Hid (A2a 99 wv w.heap.size v2 o2)/\Hid (o2.map Nod.bare=og.map Nod.bare)/\Hid (o2.length<=40)/\Hid (Below wz.heap.size wz wv))
         case first =>
          obtain ⟨n0,n1,n2,n3,n4,n5,n6,n7,n8,n9,n10,n11⟩:=HNZ.out.zero;cases qq with
          | true =>
            have HQ:=Hi (HGT.out rfl);have HRM:=Hi (E8f _ o y.path wz (HM.out.below HBV.out) (HOZ.out.slice (Nat.le_trans HOL.out (by unfold maxLen;omega))));have HRL:=Hi (show (A9f o y.path).1.length<=40 from B7w HOL.out);clear HGT HGF;generalize A9f o y.path=pp at *;obtain ⟨lr,er⟩:=pp;go_wp2_with fail
            refine HRM.out.mono ?_;rintro e wv ⟨v2,o2,rfl,ho,hc,hb⟩;have HO2:=Hi (ho.mono HBV.out.size);have HC2:=Hi (show o2.map Nod.bare=og.map Nod.bare by rw [HQ.out];exact hc);have HL2:=Hi (show o2.length<=40 by rw [A5i hc];exact HRL.out);have HB2:=Hi hb;clear ho hc hb;go_wp2;go_meet;exact ⟨_,o2,rfl,HO2,HC2,HL2,HB2⟩
          | false =>
            have HQ:=Hi (HGF.out rfl);go_wp2;go_meet;exact ⟨_,o,rfl,HOZ,Hi (by rw [HQ.out]),HOL,Hi (Below.refl _ _)⟩
         case rest =>
          obtain ⟨v2,o2,rfl,HO2,HC2,HL2,HB2⟩:=hcut;obtain ⟨wv,rfl⟩:∃ W,W=wc:=⟨_,rfl⟩;have HBQ:=Hi (HBV.out.trans (HB2.out.mono HBV.out.size));have HBCQ:=Hi (HBCV.out.trans (HB2.out.mono HBCV.out.size));obtain ⟨n0,n1,n2,n3,n4,n5,n6,n7,n8,n9,n10,n11⟩:=(HNZ.out.below HB2.out).zero;have HPT:=Hi (F5s _ o2 y wv (HM.out.below HBQ.out) (HO2.out.slice (Nat.le_trans HL2.out (by unfold maxLen;omega))) (HYV.out.below HB2.out) HYS.out HYD.out);have HPL:=Hi (C5q o2 y);have HBAD:=Hi (fun he=>HBAD.out o2 HC2.out he);have HNXT:=Hi (fun (o3:List Nod) he h3=>HNXT.out o2 o3 HC2.out he h3);generalize A5h o2 y=pp at *;obtain ⟨l3,e3⟩:=pp;clear HOZ HNZ HBV HBCV HYV HYS HYD HGT HGF HO2 HC2 HL2 HB2 HOL;go_wp2_with fail
          refine HPT.out.mono ?_;rintro e wu ⟨v3,o3,rfl,ho,hc,hb⟩;have HBU:=Hi (HBQ.out.trans (hb.mono HBQ.out.size));have HBCU:=Hi (HBCQ.out.trans (hb.mono HBCQ.out.size));have HOU:=Hi (ho.mono HBQ.out.size);have HLU:=Hi (show o3.length<=40 by rw [A5i hc];exact HPL.out);by_cases he:e3=0
          ·have HNX:=Hi (HNXT.out o3 he hc);subst he;clear ho hc hb HBAD HNXT n0 n1 n2 n3 n4 n5 n6 n7 n8 n9 n10 n11;go_wp2;go_roundw
           case rel=>exact ⟨k+1,_,o3,by omega,by go_num,rfl,HOU,HLU,HNX,HBCU,HBU⟩
           case measure=>simp [intOf];omega
          ·have HBD:=Hi (HBAD.out he);have hq:(e3 != 0)=true:=by rw [bne_iff_ne];exact he
           obtain ⟨u1,u2⟩:=U;obtain ⟨hb1,hb2⟩:=HBD.out;simp only at hb1 hb2;subst hb2;have HB1:=Hi hb1;clear ho hc hb hb1 HBD HBAD HNXT he n0 n1 n2 n3 n4 n5 n6 n7 n8 n9 n10 n11;go_wp2;go_ret2;exact ⟨_,[],rfl,A2a.nil _ _ _,HB1.out.symm,HBU.out⟩
      ·obtain rfl:k=c.length:=by omega
       have HDN:=Hi HTG.out.done;have HAE:=Hi (D3z _ o wr (HM.out.below HB.out) (HOW.out.slice (Nat.le_trans HOL.out (by unfold maxLen;omega))));clear HTG;generalize A0q o=pp at *;obtain ⟨l5,e5⟩:=pp;obtain ⟨u1,u2⟩:=U;obtain ⟨hd1,rfl⟩:=HDN.out;have HD1:=Hi hd1;clear hd1 HDN;go_wp2_with fail
       refine HAE.out.mono ?_;rintro e w5 ⟨v5,o5,rfl,ho,hc,hb⟩;have HB5:=Hi (HB.out.trans (hb.mono HB.out.size));have HO5:=Hi (ho.mono HB.out.size);have HC5:=Hi (hc.trans HD1.out);clear ho hc hb;go_wp2;go_ret2;exact ⟨_,o5,rfl,HO5.out,HC5.out,HB5.out⟩
    ·have hq:(e0 != 0)=true:=by rw [bne_iff_ne];exact he
     have HF:=Hi (HK4.out he);clear HK4 HK5 he;go_wp2;go_ret2;rw [HF.out];exact ⟨_,[],rfl,A2a.nil _ _ _,rfl,HB3.out⟩
   ·have hdq:(xd.kind != 2)=true:=by rw [bne_iff_ne];exact hd
    have HF:=Hi (HKD.out hf hd);clear HKD HK4 HK5 hd;go_wp2;go_ret2;rw [HF.out];exact ⟨_,[],rfl,A2a.nil _ _ _,rfl,HB2.out⟩
  ·have HF:=Hi (HQ2.out hf hfd);have hfi:A0u (A1a t dir) t.length=(0,5):=if_neg hfd;rw [hfi] at HFI;clear hfi;clear HQ1 HQ2 HQ3 HQ4 HQ5 hf;go_wp2_with fail
   refine HFI.out.mono ?_;rintro e w2 ⟨rfl,hb⟩;have HB2:=Hi (HB1.out.trans (hb.mono HB1.out.size));clear hb;go_wp2;go_ret2;rw [HF.out];exact ⟨_,[],rfl,A2a.nil _ _ _,rfl,HB2.out⟩
 ·have hq:(A0a t != 0)=true:=by rw [bne_iff_ne];exact hf
  have HF:=Hi (HQ1.out hf);clear HQ1 HQ2 HQ3 HQ4 HQ5 hf;go_wp2;go_ret2;rw [HF.out];exact ⟨_,[],rfl,A2a.nil _ _ _,rfl,HB1.out⟩
theorem E0w (v : Value) (t : List Nod) (dir : ByteArray) (vb : Value) (b : List UInt8) (w : World) (ht : A4a maxLen 12 (B6b maxLen) w [v] t) (h : A4a maxLen 1 A1e w [vb] b) (hbl : b.length ≤ 1048576) (hM : A1n w) (hE : A6p w) (hT : A7m w) :
 Calls Tryz.prog 35 #[v,.string dir,vb] w (B4j 99 w (A6h 1000 t dir b)):=by
 have HCT:=Hi (A0e v t w ht);have HRS:=Hi (fun W (hb:Below w.heap.size w W)=>F1s vb b W (A3b h hb) hbl (hM.below hb) (hE.below hb) (hT.below hb));have HAN:=Hi (fun W (hb:Below w.heap.size w W)=>D2z v t W (A8c ht hb));have HH:=Hi ht;have HM:=Hi hM;have HQ1:=Hi (C9m (a:=1000) (t:=t) (dir:=dir) (b:=b));have HQ2:=Hi (C3c (a:=1000) (t:=t) (dir:=dir) (b:=b));have HQ3:=Hi (C9r (a:=1000) (t:=t) (dir:=dir) (b:=b));obtain ⟨⟨l,e0⟩,hk⟩:∃ q,A4j b=q:=⟨_,rfl⟩;have HQ4:=Hi (fun h h1 h2 he=>C4c (a:=1000) (t:=t) (dir:=dir) (b:=b) h h1 h2 hk he);have HQ5:=Hi (fun h h1 h2 he=>C0s (a:=1000) (t:=t) (dir:=dir) (b:=b) h h1 h2 hk he);have HCO:=Hi (fun (c:List Nod) he h=>D5v (c:=c) hk he h);have hlen:=C8m b;rw [hk] at HRS hlen;simp only at hlen;generalize A6h 1000 t dir b=U at *;clear ht h hM hE hT hk;go_enter Tryz.func35,Tryz.ntmps35;go_wp2_with fail
 refine HCT.out.mono ?_;rintro e w1 ⟨rfl,hb⟩;have HB1:=Hi hb;clear hb HCT;by_cases hf:A0a t=0
 ·have hfq:(A0a t != 0)=false:=by rw [hf];rfl
  have HFI:=Hi (B5d v t dir w1 (A8c HH.out HB1.out));by_cases hfd:A1a t dir<t.length
  ·have HDS:=Hi (D8u hf hfd);rcases A1g HH.out with ⟨a,cap,rfl,rfl,_⟩|⟨g,off,cap,rfl,hg1,hg2,hg3,hg6,hg4,hg5⟩
   ·exact absurd hfd (by simp)
   have HNA:=Hi hg4;unfold maxLen at hg3;clear hg4 hg5 hg6;go_wp2_with fail
   refine HFI.out.mono ?_;rintro e w2 ⟨rfl,rfl⟩;have HB2:=Hi HB1.out;have hne:(((A1a t dir:Nat):Int)==(t.length:Int))=false:=by rw [beq_eq_false_iff_ne];omega
   obtain ⟨h0,h1,h2,h3,h4,h5,h6,h7,h8,h9,h10,h11⟩:=(HNA.out.below HB2.out) (A1a t dir) hfd;have HKD:=Hi (fun he hu=>HQ3.out he hfd hu);have HK4:=Hi (fun he hu=>HQ4.out he hfd hu);have HK5:=Hi (fun he hu=>HQ5.out he hfd hu);generalize hix:nk t (A1a t dir)=xd at *;clear hix HQ3 HQ4 HQ5 HQ1 HQ2 HFI;by_cases hd:xd.kind=2
   ·have hdq:(xd.kind != 2)=false:=by rw [hd];rfl
    have HK4:=Hi (fun he=>HK4.out hf hd he);have HK5:=Hi (fun he=>HK5.out hf hd he);clear HKD;go_wp2_with fail
    refine (HRS.out _ HB2.out).mono ?_;rintro e w3 ⟨v3,c,rfl,ho,hc,hb⟩;have HB3:=Hi (HB2.out.trans (hb.mono HB2.out.size));have HO3:=Hi ho;have HC3:=Hi hc;simp only at HC3;clear ho hc hb h0 h1 h2 h3 h4 h5 h6 h7 h8 h9 h10 h11 HRS;by_cases he:e0=0
    ·subst he;have HCM:=Hi (HCO.out _ rfl HC3.out);have hcl:c.length<=40:=by rw [A5i HC3.out];exact hlen
     have HUQ:=HK5.out rfl;subst HUQ;have HAQ:=Hi (A8u hf);have HA:=Hi (HAN.out _ HB3.out);rw [HAQ.out] at HA;clear HAN HK4 HK5 HAQ;go_wp2_with fail
     refine HA.out.mono ?_;rintro e w4 ⟨v4,o4,rfl,ho,hc,hb⟩;have HB4:=Hi (HB3.out.trans (hb.mono HB3.out.size));have HO4:=Hi (ho.mono HB3.out.size);have HC4:=Hi (HO3.out.below hb);have HL4:=Hi (show o4.length<=40 by rw [A5i hc,C2f];exact (A2b hf).1);have HG4:=Hi (TGo.start (a:=1000) (dir:=dir) hc HC3.out);generalize A4o 1000 dir (B8p t) l=U at *;clear ho hc hb HA HC3 HO3;obtain ⟨ac,capc,rfl,hcap,hcm,hac⟩:=HC4.out.opened;have HAC:=Hi hac;clear hac;unfold maxLen at hcm;go_wp2_with fail
     go_loopw [11,12,15,16,50] (fun _ v13 _ _ i wr=>∃ (k:Nat) (vo:Value) (o:List Nod),k<=c.length/\i=.int .i64 (k:Int)/\vo=v13/\Hid (A2a 99 wr w.heap.size vo o)/\Hid (o.length<=40)/\Hid (TGo 1000 dir o (c.drop k) U)/\Hid (Below w4.heap.size w4 wr)/\Hid (Below w.heap.size w wr)) (fun _ v13 _ _ i _=>c.length-(intOf i).toNat)
     case atStart=>exact ⟨0,_,o4,by omega,rfl,rfl,HO4,HL4,HG4,Hi (Below.refl _ _),HB4⟩
     case round =>
      obtain ⟨k,vo,o,hk,rfl,rfl,HOW,HOL,HTG,HBC,HB⟩:=hrel;by_cases hlt:k<c.length
      ·obtain ⟨gc,rfl⟩:=HAC.out k hlt;obtain ⟨h0,h1,h2,h3,h4,h5,h6,h7,h8,h9,h10,h11⟩:=(HC4.out.nodAt hlt).below HBC.out;have HXN:=Hi ((HC4.out.nodIn hlt).below HBC.out).1;have HX:=Hi (HCM.out k hlt);have HBAD:=Hi (fun (o2:List Nod) h2 he=>TGo.bad (o2:=o2) HTG.out hlt h2 he);have HNXT:=Hi (fun (o2 o3:List Nod) h2 he h3=>TGo.next (o2:=o2) (o3:=o3) HTG.out hlt h2 he h3);generalize nk c k=x at *;have HBX:=Hi ((Below.refl wr.heap.size wr).alloc lr (A4h x));have HBZ:=Hi (heap_alloc_new wr (A4h x));have HYO:=Hi (C9z (a:=1000) HXN.out (by unfold maxLen;omega) HDS.out HX.out (by omega));have HYS:=Hi (C1m (a:=1000) HDS.out HX.out);have HYD:=Hi (show (A4g 1000 dir x).data.length<=140737488355328 from Nat.le_trans HX.out.data (by omega));have hxs:=HX.out.same1;have hxp:=HX.out.path;have hds:=HDS.out;clear HTG;go_upto_if 62 with fail
       generalize hkb:decide (0<x.same)=kb at *;have HKB:=Hi hkb;clear hkb;go_cut [] from 63 to 66 (fun wx=>Hid (wx.heap[wr.heap.size]?=some (A4h (A4g 1000 dir x)))/\Hid (Below wr.heap.size wr wx))
       case first =>
        cases kb with
        | true =>
          have hs0:0<x.same:=of_decide_eq_true HKB.out;have HS:=Hi (D1n (a:=1000) (dir:=dir) (of_decide_eq_true HKB.out));go_wp2;go_meet;exact ⟨Hi (by rw [HS.out];exact heap_alloc_new _ _),Hi ((Below.refl _ _).alloc lr _)⟩
        | false =>
          have HS:=Hi (D2n (a:=1000) (dir:=dir) (of_decide_eq_false HKB.out));go_wp2;go_meet;exact ⟨Hi (by rw [HS.out];exact heap_alloc_new _ _),Hi ((Below.refl _ _).alloc lr _)⟩
       case rest =>
        obtain ⟨HYR,HBY⟩:=hcut;obtain ⟨wx,rfl⟩:∃ W,W=wc:=⟨_,rfl⟩;generalize A4g 1000 dir x=y at *;clear HBX HBZ h0 h1 h2 h3 h4 h5 h6 h7 h8 h9 h10 h11 HXN HX hxs hxp hds;have HNY:=Hi (D4s HYR.out);have HOY:=Hi (HOW.out.below HBY.out);have HBB:=Hi (HB.out.trans (HBY.out.mono HB.out.size));have HFD:=Hi (B5d _ o y.path wx (HOY.out.slice (Nat.le_trans HOL.out (by unfold maxLen;omega))));generalize hfi:A1a o y.path=f1 at *;have HFI:=Hi hfi;clear hfi;have n0:=HNY.out.zero.1;go_wp2_with fail
        refine HFD.out.mono ?_;rintro e wz ⟨rfl,rfl⟩;have HBZ:=Hi (Below.refl wx.heap.size wx);obtain ⟨wz,hwz⟩:∃ W:World,W=wx:=⟨_,rfl⟩;subst hwz;have HNZ:=Hi (HNY.out.below HBZ.out);have HOZ:=Hi (HOY.out.below HBZ.out);clear HNY n0;go_upto_region 20 with fail
        go_cut [88] from 71 to 88 (fun u wy=>u=.bool (goB o y)/\wy=wz)
        case first =>
         obtain ⟨n0,n1,n2,n3,n4,n5,n6,n7,n8,n9,n10,n11⟩:=HNZ.out.zero;by_cases hfd:A1a o y.path<o.length
         ·rcases HOZ.out.form with ⟨rfl,rfl⟩|⟨go,capo,rfl,hgB,hgw,hco,hcmo⟩
          ·exact absurd hfd (by simp)
          unfold maxLen at hcmo;obtain ⟨z0,z1,z2,z3,z4,z5,z6,z7,z8,z9,z10,z11⟩:=HOZ.out.nodAt hfd;have HG1:=Hi (fun h1 h2=>E4m (l:=o) (y:=y) h1 h2);have HG2:=Hi (fun h1=>F0f (l:=o) (y:=y) hfd h1);have HG3:=Hi (fun h1=>F1f (l:=o) (y:=y) hfd h1);obtain rfl:=HFI.out;generalize nk o (A1a o y.path)=z at *;generalize A1a o y.path=ix at *;by_cases hz:z.kind=2
          ·have hz1:(z.kind==2)=true:=by rw [hz];rfl
           by_cases hy:y.kind=2
           ·have hy1:(y.kind==2)=true:=by rw [hy];rfl
            have HGQ:=Hi (HG1.out hz hy);clear hz hy;go_wp2;go_meet;exact ⟨by rw [HGQ.out],rfl⟩
           ·have hy1:(y.kind==2)=false:=by rw [beq_eq_false_iff_ne];exact hy
            have HGQ:=Hi (HG3.out hy);clear hz hy;go_wp2;go_meet;exact ⟨by rw [HGQ.out],rfl⟩
          ·have hz1:(z.kind==2)=false:=by rw [beq_eq_false_iff_ne];exact hz
           have HGQ:=Hi (HG2.out hz);clear hz;go_wp2;go_meet;exact ⟨by rw [HGQ.out],rfl⟩
         ·have HGQ:=Hi (E3m (l:=o) (y:=y) hfd);obtain ⟨ao,capo,rfl,hco,hcmo,_⟩:=HOZ.out.opened;have hie:=HFI.out;rw [show A1a o y.path=o.length from Nat.le_antisymm (A8y _ _) (Nat.le_of_not_lt hfd)] at hie;subst hie;clear hfd;go_wp2;go_meet;exact ⟨by rw [HGQ.out],rfl⟩
        case rest =>
         obtain ⟨rfl,rfl⟩:=hcut;obtain ⟨wz,rfl⟩:∃ W:World,W=wc:=⟨_,rfl⟩;have HGT:=Hi (fun h=>D4n (l:=o) (y:=y) h);have HGF:=Hi (fun h=>D5n (l:=o) (y:=y) h);generalize goB o y=qq at *;generalize A4u o y=og at *;have HBV:=Hi (HBB.out.trans (HBZ.out.mono HBB.out.size));have HYV:=Hi (HYO.out.below (HBY.out.trans (HBZ.out.mono HBY.out.size)));have HBCV:=Hi (HBC.out.trans ((HBY.out.trans (HBZ.out.mono HBY.out.size)).mono HBC.out.size));clear HOY HYO HYR HOW HBB HB HBC HBY HBZ HFD HFI;go_step;go_cut [12,88] from 89 to 95 (fun u13 _ wv=>∃ (v2:Value) (o2:List Nod),u13=v2/\Hid (A2a 99 wv w.heap.size v2 o2)/\Hid (o2.map Nod.bare=og.map Nod.bare)/\Hid (o2.length<=40)/\Hid (Below wz.heap.size wz wv))
         case first =>
          obtain ⟨n0,n1,n2,n3,n4,n5,n6,n7,n8,n9,n10,n11⟩:=HNZ.out.zero;cases qq with
          | true =>
            have HQ:=Hi (HGT.out rfl);have HRM:=Hi (E7f _ o y.path wz (HOZ.out.slice (Nat.le_trans HOL.out (by unfold maxLen;omega))));have HRL:=Hi (show (A9f o y.path).1.length<=40 from B7w HOL.out);clear HGT HGF;generalize A9f o y.path=pp at *;obtain ⟨lr,er⟩:=pp;go_wp2_with fail
            refine HRM.out.mono ?_;rintro e wv ⟨v2,o2,rfl,ho,hc,hb⟩;have HO2:=Hi (ho.mono HBV.out.size);have HC2:=Hi (show o2.map Nod.bare=og.map Nod.bare by rw [HQ.out];exact hc);have HL2:=Hi (show o2.length<=40 by rw [A5i hc];exact HRL.out);have HB2:=Hi hb;clear ho hc hb;go_wp2;go_meet;exact ⟨_,o2,rfl,HO2,HC2,HL2,HB2⟩
          | false =>
            have HQ:=Hi (HGF.out rfl);go_wp2;go_meet;exact ⟨_,o,rfl,HOZ,Hi (by rw [HQ.out]),HOL,Hi (Below.refl _ _)⟩
         case rest =>
          obtain ⟨v2,o2,rfl,HO2,HC2,HL2,HB2⟩:=hcut;obtain ⟨wv,rfl⟩:∃ W,W=wc:=⟨_,rfl⟩;have HBQ:=Hi (HBV.out.trans (HB2.out.mono HBV.out.size));have HBCQ:=Hi (HBCV.out.trans (HB2.out.mono HBCV.out.size));obtain ⟨n0,n1,n2,n3,n4,n5,n6,n7,n8,n9,n10,n11⟩:=(HNZ.out.below HB2.out).zero;have HPT:=Hi (F4s _ o2 y wv (HO2.out.slice (Nat.le_trans HL2.out (by unfold maxLen;omega))) (HYV.out.below HB2.out) HYS.out HYD.out);have HPL:=Hi (C5q o2 y);have HBAD:=Hi (fun he=>HBAD.out o2 HC2.out he);have HNXT:=Hi (fun (o3:List Nod) he h3=>HNXT.out o2 o3 HC2.out he h3);generalize A5h o2 y=pp at *;obtain ⟨l3,e3⟩:=pp;clear HOZ HNZ HBV HBCV HYV HYS HYD HGT HGF HO2 HC2 HL2 HB2 HOL;go_wp2_with fail
          refine HPT.out.mono ?_;rintro e wu ⟨v3,o3,rfl,ho,hc,hb⟩;have HBU:=Hi (HBQ.out.trans (hb.mono HBQ.out.size));have HBCU:=Hi (HBCQ.out.trans (hb.mono HBCQ.out.size));have HOU:=Hi (ho.mono HBQ.out.size);have HLU:=Hi (show o3.length<=40 by rw [A5i hc];exact HPL.out);by_cases he:e3=0
          ·have HNX:=Hi (HNXT.out o3 he hc);subst he;clear ho hc hb HBAD HNXT n0 n1 n2 n3 n4 n5 n6 n7 n8 n9 n10 n11;go_wp2;go_roundw
           case rel=>exact ⟨k+1,_,o3,by omega,by go_num,rfl,HOU,HLU,HNX,HBCU,HBU⟩
           case measure=>simp [intOf];omega
          ·have HBD:=Hi (HBAD.out he);have hq:(e3 != 0)=true:=by rw [bne_iff_ne];exact he
           obtain ⟨u1,u2⟩:=U;obtain ⟨hb1,hb2⟩:=HBD.out;simp only at hb1 hb2;subst hb2;have HB1:=Hi hb1;clear ho hc hb hb1 HBD HBAD HNXT he n0 n1 n2 n3 n4 n5 n6 n7 n8 n9 n10 n11;go_wp2;go_ret2;exact ⟨_,[],rfl,A2a.nil _ _ _,HB1.out.symm,HBU.out⟩
      ·obtain rfl:k=c.length:=by omega
       have HDN:=Hi HTG.out.done;have HAE:=Hi (D2z _ o wr (HOW.out.slice (Nat.le_trans HOL.out (by unfold maxLen;omega))));clear HTG;generalize A0q o=pp at *;obtain ⟨l5,e5⟩:=pp;obtain ⟨u1,u2⟩:=U;obtain ⟨hd1,rfl⟩:=HDN.out;have HD1:=Hi hd1;clear hd1 HDN;go_wp2_with fail
       refine HAE.out.mono ?_;rintro e w5 ⟨v5,o5,rfl,ho,hc,hb⟩;have HB5:=Hi (HB.out.trans (hb.mono HB.out.size));have HO5:=Hi (ho.mono HB.out.size);have HC5:=Hi (hc.trans HD1.out);clear ho hc hb;go_wp2;go_ret2;exact ⟨_,o5,rfl,HO5.out,HC5.out,HB5.out⟩
    ·have hq:(e0 != 0)=true:=by rw [bne_iff_ne];exact he
     have HF:=Hi (HK4.out he);clear HK4 HK5 he;go_wp2;go_ret2;rw [HF.out];exact ⟨_,[],rfl,A2a.nil _ _ _,rfl,HB3.out⟩
   ·have hdq:(xd.kind != 2)=true:=by rw [bne_iff_ne];exact hd
    have HF:=Hi (HKD.out hf hd);clear HKD HK4 HK5 hd;go_wp2;go_ret2;rw [HF.out];exact ⟨_,[],rfl,A2a.nil _ _ _,rfl,HB2.out⟩
  ·have HF:=Hi (HQ2.out hf hfd);have hie:A1a t dir=t.length:=Nat.le_antisymm (A8y _ _) (Nat.le_of_not_lt hfd);rw [hie] at HFI;rcases A1g HH.out with ⟨a,cap,rfl,rfl,_⟩|⟨g,off,cap,rfl,hg1,hg2,hg3,hg6,hg4,hg5⟩
   ·go_wp2_with fail
    refine HFI.out.mono ?_;rintro e w2 ⟨rfl,rfl⟩;go_wp2;go_ret2;rw [HF.out];exact ⟨_,[],rfl,A2a.nil _ _ _,rfl,HB1.out⟩
   ·go_wp2_with fail
    refine HFI.out.mono ?_;rintro e w2 ⟨rfl,rfl⟩;go_wp2;go_ret2;rw [HF.out];exact ⟨_,[],rfl,A2a.nil _ _ _,rfl,HB1.out⟩
 ·have hq:(A0a t != 0)=true:=by rw [bne_iff_ne];exact hf
  have HF:=Hi (HQ1.out hf);clear HQ1 HQ2 HQ3 HQ4 HQ5 hf;go_wp2;go_ret2;rw [HF.out];exact ⟨_,[],rfl,A2a.nil _ _ _,rfl,HB1.out⟩
end Go.Proofs.YtaffgndickdbiaaGreatDoor
