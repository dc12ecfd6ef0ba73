/- A part of the proof. -/
import Derived.Test.YtaffgndickdbiaaGreatDoorV36
set_option linter.unusedVariables false
set_option linter.unusedSimpArgs false
set_option maxRecDepth 100000
set_option maxHeartbeats 4000000
namespace Go.Proofs.YtaffgndickdbiaaGreatDoor
open Go.Creel Go.RowKit
theorem F8h (v : Value) (b : List UInt8) (w : World) (h : A4a maxLen 1 A1e w [v] b) (hbl : b.length ≤ 1048576) (hM : A1n w) (hE : A6p w) (hT : A7m w) :
 Calls Tryz.prog 27 #[v] w (F3i 26 w (A6v b)):=by
 obtain ⟨a,cap,hv,hcp⟩:=A0f h;subst hv;obtain ⟨i0,hi,hz0,hz1,hz2⟩:=info_parts C9u;have HI:=Hi (And.intro hi (And.intro hz0 (And.intro hz1 hz2)));have hs2:∀ (k:Nat),k<=b.length->∀ W:World,(Instr.slice 24 (.slice a b.length cap) (some (.int .i64 (k:Int))) none none).run Tryz.prog W=.ok (sliced a k b.length cap 1) W:=fun k hk W=>B5a W a b.length cap k hk hcp
 have HS2:=Hi hs2;have HDR:=Hi (fun k (hk:k<=b.length)=>A0p (i:=k) h hk);have HGET:=Hi (fun (v2:Value) (b2:List UInt8) (W:World) (h2:A4a maxLen 1 A1e W [v2] b2) (hl:b2.length<=1048576) (hb:Below w.heap.size w W)=>F3t v2 b2 W h2 hl (hE.below hb) (hT.below hb));have HMID:=Hi (fun k (hk:k+512<=b.length)=>F2g (i:=k) (j:=k+512) h (by omega) hk);have HSO:Hid (A6v b=B4a b (b.length+1) 0 []):=Hi rfl;generalize A6v b=so at *;clear h hM hE hT hi hz0 hz1 hz2 hs2;go_enter Tryz.func27,Tryz.ntmps27;go_wp2_with fail
 go_loopw [5,6,7,8,9] (fun u5 u6 _ _ _ wr=>∃ (k f:Nat) (acc acc':List Ent),k<=b.length/\u6=.int .i64 (k:Int)/\b.length<=f+k/\acc.length*512<=k/\Hid (so=B4a b (f+1) k acc)/\Hid (acc'.map Ent.bare=acc.map Ent.bare)/\Hid (∀ x∈acc',∀ p,x.da=some p->w.heap.size<=p.block)/\Hid (A9g 26 wr w.heap.size u5 acc')/\Hid (Below w.heap.size w wr)) (fun _ u6 _ _ _ _=>b.length-(intOf u6).toNat)
 case atStart=>exact ⟨0,b.length,[],[],by omega,rfl,by omega,by simp,HSO,Hi rfl,Hi (fun x hx=>absurd hx (by simp)),Hi (A9g.nil _ _ _),Hi (Below.refl _ _)⟩
 case round =>
  obtain ⟨k,f,acc,acc',hk,rfl,hfk,hal,HSG,HBR,HPL,HOW,HB⟩:=hrel;obtain ⟨vv,rfl⟩:∃ V:Value,V=u5:=⟨_,rfl⟩;have hlen:acc'.length=acc.length:=C0f HBR.out;obtain ⟨ak,ck,hsk,hcpk⟩:=A0f (HDR.out k hk);have hsl2:∀ W:World,(Instr.slice 24 (.slice a b.length cap) (some (.int .i64 (k:Int))) none none).run Tryz.prog W=.ok (.slice ak (b.drop k).length ck) W:=fun W=>by rw [<-hsk];exact HS2.out k hk W
  have HD:=HDR.out k hk;rw [hsk] at HD;obtain ⟨bk,hbk⟩:∃ bk,bk=b.drop k:=⟨_,rfl⟩;have HQ1:=Hi (fun h=>HSG.out.trans (C5m (b:=b) (f:=f) (k:=k) (acc:=acc) h));have HQ2:=Hi (fun h h2=>HSG.out.trans (C6r (b:=b) (f:=f) (k:=k) (acc:=acc) h h2));have HQ3:=Hi (fun h h2 x n e h3 he=>HSG.out.trans (D3a (b:=b) (f:=f) (k:=k) (acc:=acc) h h2 (x:=x) (n:=n) (e:=e) h3 he));have HQ4:=Hi (fun h h2 x n h3=>HSG.out.trans (C7r (b:=b) (f:=f) (k:=k) (acc:=acc) h h2 (x:=x) (n:=n) h3));have hbl2:bk.length+k=b.length:=by rw [hbk,List.length_drop];omega
  rw [<-hbk] at HQ1 HQ2 HQ3 HQ4 HD hsl2 hcpk;have HBK:=Hi hbk;clear hsk hbk HSG;by_cases hsh:bk.length<512
  ·have hd:decide (((k:Int)+512)<=(b.length:Int))=false:=by rw [decide_eq_false_iff_not];omega
   have HQ:=Hi (HQ1.out hsh);clear HQ1 HQ2 HQ3 HQ4 hsh;go_wp2
   go_ret3
   rw [HQ.out];exact ⟨_,acc',rfl,HOW.out,HBR.out,by omega,HPL.out,HB.out⟩
  ·have hd:decide (((k:Int)+512)<=(b.length:Int))=true:=by rw [decide_eq_true_iff];omega
   have hk5:k+512<=b.length:=by omega
   have hnum:((k:Int)+512)=((k+512:Nat):Int):=by omega
   have hwr:IntKind.i64.wrap ((k:Int)+512)=(k:Int)+512:=by rw [IntKind.wrap_i64];omega
   have hmid:=HMID.out k hk5;rw [<-HBK.out,show k+512-k=512 by omega] at hmid;have hck:¬ cap=k:=by omega
   have hmid2:A4a maxLen 1 A1e w [.slice (a.map (fun x=>x.add k)) 512 (cap-k)] (bk.take 512):=by
    have h9:=hmid;unfold sliced at h9;rw [if_neg hck,show k+512-k=512 by omega,Nat.mul_one] at h9;exact h9
   have hn1:(0:Int)<=(k:Int)+512:=by omega
   have hn2:(k:Int)+512<=(cap:Int):=by omega
   have hn3:((k:Int)+512).toNat=k+512:=by omega
   have hn4:k<=k+512:=by omega
   have hn5:k+512-k=512:=by omega
   have hbd:∀ n,Below wr.heap.size wr (wr.drewN n):=fun n=>⟨rfl,rfl,rfl,Nat.le_refl _,fun _ _=>rfl⟩
   have hcv:=fun n=>conv (wr.drewN n) (A3b hmid2 (HB.out.trans ((hbd n).mono HB.out.size)))
   have HBD:=Hi hbd;have HZR:=Hi (fun n=>B2f 512 (wr.drewN n) (by decide) (by decide));have hzs:A2j (512:Int).toNat=ofL (C6b 512):=rfl;rw [hzs] at HZR;clear hmid hmid2 hnum hbd hzs;by_cases hz:bk.take 512=C6b 512
   ·have HQ:=Hi (HQ2.out hsh hz);have hcmp:=sofs_eq hz;clear HQ1 HQ2 HQ3 HQ4 hsh hz;go_upto_region 4 with fail
    go_quiet ((go_at_call 60;exact A2n (HZR.out _)))
    go_wp2
    go_ret3
    rw [HQ.out];exact ⟨_,acc',rfl,HOW.out.below (HBD.out _),HBR.out,by omega,HPL.out,HB.out.trans ((HBD.out _).mono HB.out.size)⟩
   ·have hcmp:=sofs_ne hz;go_upto_region 4 with fail
    go_quiet ((go_at_call 60;exact A2n (HZR.out _)))
    have HBQ:=Hi (HB.out.trans ((HBD.out nq).mono HB.out.size));have HOQ:=Hi (HOW.out.below (HBD.out nq));clear HZR hcv hcmp HBD;generalize wr.drewN nq=wq at *;have HDW:=Hi (A3b HD HBQ.out);have HCALL:=Hi (HGET.out (.slice ak bk.length ck) bk wq HDW.out (by omega) HBQ.out);obtain ⟨⟨y,n,e0⟩,hmo⟩:∃ q,A6s bk=q:=⟨_,rfl⟩;have HRNG:=Hi (fun he=>C4u (b:=bk) he);rw [hmo] at HCALL HRNG;simp only at HRNG;go_wp2_with fail
    refine HCALL.out.mono ?_;rintro e w2 ⟨x,rfl,hx,hb2⟩;have HB2:=Hi (HBQ.out.trans (hb2.mono HBQ.out.size));have HX:=Hi hx;have HBB:=Hi hb2;have HO2:=Hi (HOQ.out.below hb2);clear hx hb2 HCALL;by_cases he:e0=0
    ·subst he;obtain ⟨m,hm,hm1,hm2⟩:=HRNG.out rfl
     (try simp only at hm)
     subst hm;have HQ:=Hi (HQ4.out hsh hz _ _ hmo);clear HQ1 HQ2 HQ3 HQ4 HRNG hsh hz hmo;go_upto_region 9 with fail
     have HA1:=Hi ((Below.refl w2.heap.size w2).alloc lr (.cells #[.string x.path,.int .i64 x.kind,.string x.target,.int .i64 x.mt.mode,.int .i64 x.mt.uid,.int .i64 x.mt.gid,.string x.mt.user,.string x.mt.group,.int .i64 x.mt.second,.int .i64 x.mt.nano,.slice x.da x.data.length x.dcap] 26));have HBX:Hid ((w2.alloc (.cells #[.string x.path,.int .i64 x.kind,.string x.target,.int .i64 x.mt.mode,.int .i64 x.mt.uid,.int .i64 x.mt.gid,.string x.mt.user,.string x.mt.group,.int .i64 x.mt.second,.int .i64 x.mt.nano,.slice x.da x.data.length x.dcap] 26)).heap[w2.heap.size]?=some (.cells #[.string x.path,.int .i64 x.kind,.string x.target,.int .i64 x.mt.mode,.int .i64 x.mt.uid,.int .i64 x.mt.gid,.string x.mt.user,.string x.mt.group,.int .i64 x.mt.second,.int .i64 x.mt.nano,.slice x.da x.data.length x.dcap] 26 (0,0))):=Hi (heap_alloc_new _ _);generalize w2.alloc (.cells #[.string x.path,.int .i64 x.kind,.string x.target,.int .i64 x.mt.mode,.int .i64 x.mt.uid,.int .i64 x.mt.gid,.string x.mt.user,.string x.mt.group,.int .i64 x.mt.second,.int .i64 x.mt.nano,.slice x.da x.data.length x.dcap] 26)=W at *;have HBW2:=Hi (HB2.out.trans (HA1.out.mono HB2.out.size));obtain ⟨c0,c1,c2,c3,c4,c5,c6,c7,c8,c9,c10⟩:=A7g HBX.out;have HA:=Hi (HBW2.out.alloc HBW2.out.size (F9q x));have HWA:=Hi ((Below.refl W.heap.size W).alloc lr (F9q x));have HO3:=Hi ((HO2.out.below HA1.out).below HWA.out);have HN3:=Hi (D6u HX.out (HA1.out.trans (HWA.out.mono HA1.out.size)) HOQ.out);go_wp2_with (at_builtin;refine A9b _ rfl (.tmp 38) (.tmp 40) 32 32 rfl _ _ rfl rfl (fun ty=>A8g _ 32 32 ty w.heap.size 26 i0 _ 11 136 Tryz.underlying32 HI.out.1 HI.out.2.1 HI.out.2.2.1 HI.out.2.2.2 rfl (by decide) _ _ acc'.length 1 _ _ HO3.out.1 (E6z W _ _ _ Tryz.underlying32 x) (by unfold maxLen;omega) (by omega) HA.out.size) ?_;intro v3 w5 ho2 hg2 hv2;have HZ:=Hi (And.intro ho2 (And.intro hg2 hv2.2));clear ho2 hg2 hv2)
     have HO4:=Hi (HO3.out.app (m:=[x]) (fun z hz=>by rw [List.mem_singleton.1 hz];exact HN3.out) HZ.out.1 HZ.out.2.1 HZ.out.2.2);have HB4:=Hi (A7b HA.out HZ.out.2.1 HO3.out.1 HA.out.size);obtain ⟨f2,rfl⟩:∃ f2,f=f2+1:=⟨f-1,by omega⟩;go_wp2;go_roundw
     case rel=>exact ⟨k+m,f2,acc++[y],acc'++[x],by omega,by go_num,by omega,by simp only [List.length_append,List.length_cons,List.length_nil];omega,HQ,Hi (by rw [List.map_append,List.map_append,HBR.out];congr 1;simp only [List.map_cons,List.map_nil];rw [HX.out.1]),Hi (fun z hz p hp=>by
      rcases List.mem_append.1 hz with h|h
      ·exact HPL.out z h p hp
      ·rw [List.mem_singleton.1 h] at hp;exact Nat.le_trans HBQ.out.size (HX.out.2.2 p hp)),HO4,HB4⟩
     case measure=>simp [intOf];omega
    ·have hq:(e0 != 0)=true:=by rw [bne_iff_ne];exact he
     have HQ:=Hi (HQ3.out hsh hz _ _ _ hmo he);have HBF:=Hi (HB2.out.alloc HB2.out.size (.cells #[.string x.path,.int .i64 x.kind,.string x.target,.int .i64 x.mt.mode,.int .i64 x.mt.uid,.int .i64 x.mt.gid,.string x.mt.user,.string x.mt.group,.int .i64 x.mt.second,.int .i64 x.mt.nano,.slice x.da x.data.length x.dcap] 26));have HOF:=Hi (HO2.out.below ((Below.refl w2.heap.size w2).alloc lr (.cells #[.string x.path,.int .i64 x.kind,.string x.target,.int .i64 x.mt.mode,.int .i64 x.mt.uid,.int .i64 x.mt.gid,.string x.mt.user,.string x.mt.group,.int .i64 x.mt.second,.int .i64 x.mt.nano,.slice x.da x.data.length x.dcap] 26)));clear HQ1 HQ2 HQ3 HQ4 HRNG hsh hz hmo he;go_wp2
     go_ret3
     rw [HQ.out];exact ⟨_,acc',rfl,HOF.out,HBR.out,by omega,HPL.out,HBF.out⟩
theorem D7u (x : Ent) (w : World) (h : x.Ok maxLen w) : Calls Tryz.prog 101 #[x.val] w fun e w' => e = .returned (.int .i64 (A1b x)) ∧ Below w.heap.size w w' :=
 B6j x w h.path h.target h.mt (by obtain ⟨_,_,_,_,_,h,_⟩:=h.data;exact h) h.kind lr
theorem D3y (b off cap : Nat) (l : List Ent) (w : World) (hpos : 0 < l.length) (hle : l.length ≤ cap) (hm : cap ≤ maxLen) (hc : B9q w b off l) (ho : ∀ i,i < l.length → (ek l i).Ok maxLen w) :
 Calls Tryz.prog 48 #[.slice (some ⟨b,off,none⟩) l.length cap] w fun e w'=>e=.returned (.int .i64 (A0b l))/\Below w.heap.size w w':=by
 have hm':=hm;unfold maxLen at hm;have HC:=Hi hc;have HO:=Hi ho;have HCAP:=Hi hm';clear hc ho hm';by_cases hmany:40<l.length
 ·have HF:=Hi (B2a hmany);go_enter Tryz.func48,Tryz.ntmps48;go_wp2;go_ret;exact ⟨A4e HF.out,Below.refl _ _⟩
 have hfew:l.length<=40:=by omega
 clear hmany;go_enter Tryz.func48,Tryz.ntmps48;go_wp2;go_loopw [3,4,5,6,7,8,9,15] (fun _ _ _ _ _ _ _ i wr=>∃ k:Nat,k<=l.length/\i=.int .i64 k/\Hid (∀ j,j<k->A3t l j=0)/\Hid (Below w.heap.size w wr)) (fun _ _ _ _ _ _ _ i _=>l.length-(intOf i).toNat)
 case atStart=>exact ⟨0,by omega,rfl,Hi fun j hj=>absurd hj (by omega),Hi (Below.refl _ _)⟩
 case round =>
  obtain ⟨k,hk,rfl,HZ,HB⟩:=hrel;by_cases hlt:k<l.length
  ·obtain ⟨h0,h1,h2,h3,h4,h5,h6,h7,h8,h9,h10⟩:=(HC.out.below HB.out) k hlt;have HX:=Hi ((HO.out k hlt).below HB.out);have HAT:=Hi (fun e=>B8t (e:=e) hfew hlt HZ.out);by_cases hA:A1b (ek l k)=0
   ·have HA:=Hi hA;clear hA;go_wp2_with fail
    have HBX:=Hi (A1s wr (ek l k) 26);refine (D7u _ _ (HX.out.below ((Below.refl _ _).alloc lr _))).mono ?_;rintro e w1 ⟨rfl,hb⟩;have HB1:=Hi ((HB.out.alloc HB.out.size _).trans (hb.mono (by simp;exact Nat.le_succ_of_le HB.out.size)));have HBX1:=Hi (HBX.out.below hb);rw [HA.out];clear hb h0 h1 h2 h3 h4 h5 h6 h7 h8 h9 h10;generalize wr.heap.size=bx at *;obtain ⟨g0,g1,g2,g3,g4,g5,g6,g7,g8,g9,g10⟩:=HBX1.out.zero;have HPZ:=Hi (fun (j:Nat) (hj:j<=k)=>show (ek l j).path.size<=1048576 from Nat.le_trans (C5e (by
     rcases Nat.lt_or_ge j k with h|h
     ·exact (A5v (HZ.out j h)).1
     ·rw [show j=k by omega];exact HA.out)) (by decide))
    go_upto_region 9 with fail
    go_cut [15,38] from 15 to 97 (fun c u wc=>c=.int .i64 k/\u=.bool (B9s l k)/\Hid (Below w1.heap.size w1 wc))
    case first =>
     by_cases hk0:k=0
     ·subst hk0;go_wp2;go_quiet (fail)
      go_wp2_with fail
      go_meet
      case rel=>exact ⟨rfl,congrArg Value.bool (D6r l).symm,Hi (A6a _ _ _)⟩
     ·obtain ⟨q,rfl⟩:∃ q,k=q+1:=⟨k-1,by omega⟩;obtain ⟨p0,_⟩:=(HC.out.below HB1.out) q (by omega);have hwq:IntKind.i64.wrap (q:Int)=(q:Int):=by rw [IntKind.wrap_i64];omega
      have hql:(q:Int)<(l.length:Int):=by omega
      go_wp2
      go_still_tail 11,(by kernel_rfl)
      go_wp2_with fail
      refine (B3q _ _ _ (HPZ.out q (by omega)) (HPZ.out (q+1) (by omega))).mono ?_;rintro e wc ⟨rfl,hb⟩;have HBC:=Hi ((Below.refl w1.heap.size w1).drew.trans hb);clear hb;go_wp2_with fail
      go_meet
      case rel=>exact ⟨rfl,congrArg Value.bool (E4j _ _),HBC⟩
    case rest =>
     obtain ⟨rfl,rfl,HBC⟩:=hcut;have HB2:=Hi (HB1.out.trans (HBC.out.mono HB1.out.size));have HBX2:=Hi (HBX1.out.below HBC.out);clear g0 g1 g2 g3 g4 g5 g6 g7 g8 g9 g10;obtain ⟨g0,g1,g2,g3,g4,g5,g6,g7,g8,g9,g10⟩:=HBX2.out.zero;by_cases hO:B6i l k
     ·have HOK:=Hi hO;rw [C1d hO];clear hO;go_wp2_with fail
      refine (C6f _ _ (Nat.le_trans (HPZ.out k lr) (by decide))).mono ?_;rintro e w2 ⟨rfl,hb⟩;have HB3:=Hi (HB2.out.trans (hb.mono HB2.out.size));have HBX3:=Hi (HBX2.out.below hb);clear hb g0 g1 g2 g3 g4 g5 g6 g7 g8 g9 g10;obtain ⟨g0,g1,g2,g3,g4,g5,g6,g7,g8,g9,g10⟩:=HBX3.out.zero;have htk:(l.take k).length=k:=by rw [List.length_take];omega
      have hfind:=fun (n:Nat) (s:ByteArray)=>D8e b off cap (l.take k) s (w2.drewN n) (by omega) HCAP.out (((HC.out.below HB3.out).below (A6a _ _ n)).take k)
      rw [htk] at hfind;have HFI:=Hi hfind;have htl:=C8j (l.take k) (A2f (ek l k).path);have htl2:=C8j (l.take k) (ek l k).target;rw [htk] at htl htl2;have hkc:k<=cap:=by omega
      have HUP:=Hi (show C1b l k↔((A2f (ek l k).path).size≠0->(A8m l k (A2f (ek l k).path)).kind=2) from Iff.rfl);have HF0:=Hi (HFI.out 0 (A2f (ek l k).path));have HMY:=Hi (fun h=>B3e (l:=l) (k:=k) (s:=A2f (ek l k).path) h);have HMN:=Hi (fun h=>C4d (l:=l) (k:=k) (s:=A2f (ek l k).path) h);clear hfind htk;generalize hn:A4c (l.take k) (A2f (ek l k).path)=n at HF0 HMY HMN htl;generalize hup:A2f (ek l k).path=up at HF0 HUP HMY HMN;clear hn hup;go_upto_region 13 with (first|(go_at_call 63;refine HF0.out.mono ?_;rintro e w' ⟨rfl,rfl⟩))
      go_cut [15,64] from 15 to 97 (fun c u wc2=>c=.int .i64 k/\u=.bool (!E5p l k)/\wc2=w2)
      case first =>
       by_cases h0:up.size=0
       ·have HU:=Hi (C4g (HUP.out.2 fun e=>absurd h0 e));have he:=A8h h0;clear h0;go_wp2_with fail
        go_meet
        case rel=>exact ⟨rfl,by rw [HU.out];rfl,rfl⟩
       ·have he:=A9e h0;by_cases hnk:n=k
        ·have HU:=Hi (C1q (fun e=>by have:=HUP.out.1 e h0;rw [HMN.out (by omega)] at this;cases this));clear h0;subst hnk;go_wp2_with fail
         go_meet
         case rel=>exact ⟨rfl,by rw [HU.out];rfl,rfl⟩
        ·obtain ⟨_,q1,_⟩:=(HC.out.below HB3.out) n (by omega);have hd:((n:Int)==(k:Int))=false:=by rw [beq_eq_false_iff_ne];omega
         by_cases hkd:(ek l n).kind=2
         ·have HU:=Hi (C4g (HUP.out.2 fun e=>by rw [HMY.out (by omega)];exact hkd));have hd2:((ek l n).kind != 2)=false:=by rw [hkd];rfl
          go_wp2_with fail
          go_meet
          case rel=>exact ⟨rfl,by rw [HU.out];rfl,rfl⟩
         ·have HU:=Hi (C1q (fun e=>by have:=HUP.out.1 e h0;rw [HMY.out (by omega)] at this;exact hkd this));have hd2:((ek l n).kind != 2)=true:=by rw [bne_iff_ne];exact hkd
          go_wp2_with fail
          go_meet
          case rel=>exact ⟨rfl,by rw [HU.out];rfl,rfl⟩
      case rest =>
       obtain ⟨rfl,rfl,rfl⟩:=hcut;clear HF0 HUP HMY HMN htl;by_cases hU:C1b l k
       ·rw [C4g hU];have HUO:=Hi hU;clear hU;have HLK:=Hi (show A4y l k↔((ek l k).kind=4->(A8m l k (ek l k).target).kind=1/\(A8m l k (ek l k).target).mt=(ek l k).mt) from Iff.rfl);have HMY:=Hi (fun h=>B3e (l:=l) (k:=k) (s:=(ek l k).target) h);have HMN:=Hi (fun h=>C4d (l:=l) (k:=k) (s:=(ek l k).target) h);have HF1:=Hi (fun n=>HFI.out n (ek l k).target);generalize hn:A4c (l.take k) (ek l k).target=n at HF1 HMY HMN htl2;clear hn;go_wp2;go_quiet ((first|(go_at_call 63;exact A2n (HF1.out _))))
        go_upto_region 16 with fail
        go_cut [15,96] from 15 to 97 (fun c u wc2=>c=.int .i64 k/\u=.bool (!C8i l k)/\Hid (Below wc.heap.size wc wc2))
        case first =>
         by_cases hk4:(ek l k).kind=4
         ·have hd4:((ek l k).kind==4)=true:=by rw [hk4];rfl
          by_cases hnk:n=k
          ·have HU:=Hi (B4g (fun e=>by have:=(HLK.out.1 e hk4).1;rw [HMN.out (by omega)] at this;cases this));clear hk4;subst hnk;go_wp2;go_quiet (fail)
           go_wp2_with fail
           go_meet
           case rel=>exact ⟨rfl,by rw [HU.out];rfl,Hi ((A6a _ _ _).trans (A6a _ _ _))⟩
          ·obtain ⟨q0,q1,q2,q3,q4,q5,q6,q7,q8,q9,q10⟩:=(HC.out.below HB3.out) n (by omega);have hd:((n:Int)==(k:Int))=false:=by rw [beq_eq_false_iff_ne];omega
           have hnl:(n:Int)<(l.length:Int):=by omega
           by_cases hkd:(ek l n).kind=1
           ·have hd2:((ek l n).kind != 1)=false:=by rw [hkd];rfl
            by_cases hmt:(ek l n).mt=(ek l k).mt
            ·have HU:=Hi (B6k (HLK.out.2 fun _=>by rw [HMY.out (by omega)];exact ⟨hkd,hmt⟩));have e0:=congrArg Meta.mode hmt;have e1:=congrArg Meta.uid hmt;have e2:=congrArg Meta.gid hmt;have e3:(ek l n).mt.user.toList=(ek l k).mt.user.toList:=by rw [hmt]
             have e4:(ek l n).mt.group.toList=(ek l k).mt.group.toList:=by rw [hmt]
             have e5:=congrArg Meta.second hmt;have e6:=congrArg Meta.nano hmt;clear hmt hk4 hkd;go_wp2;go_quiet (fail)
             go_wp2_with fail
             go_meet
             case rel=>exact ⟨rfl,by rw [HU.out];rfl,Hi ((A6a _ _ _).trans (A6a _ _ _))⟩
            ·have HU:=Hi (B4g (fun e=>by have:=(HLK.out.1 e hk4).2;rw [HMY.out (by omega)] at this;exact hmt this));clear hk4 hkd;rcases C3u hmt with e0|⟨e0,e1⟩|⟨e0,e1,e2⟩|⟨e0,e1,e2,e3⟩|⟨e0,e1,e2,e3,e4⟩|⟨e0,e1,e2,e3,e4,e5⟩|⟨e0,e1,e2,e3,e4,e5,e6⟩
             all_goals clear hmt
             all_goals go_wp2
             all_goals go_quiet (fail)
             all_goals go_wp2_with fail
             all_goals go_meet
             all_goals exact ⟨rfl,by rw [HU.out];rfl,Hi ((A6a _ _ _).trans (A6a _ _ _))⟩
           ·have HU:=Hi (B4g (fun e=>by have:=(HLK.out.1 e hk4).1;rw [HMY.out (by omega)] at this;exact hkd this));have hd2:((ek l n).kind != 1)=true:=by rw [bne_iff_ne];exact hkd
            clear hk4 hkd;go_wp2;go_quiet (fail)
            go_wp2_with fail
            go_meet
            case rel=>exact ⟨rfl,by rw [HU.out];rfl,Hi ((A6a _ _ _).trans (A6a _ _ _))⟩
         ·have HU:=Hi (B6k (HLK.out.2 fun e=>absurd e hk4));have hd4:((ek l k).kind==4)=false:=by rw [beq_eq_false_iff_ne];exact hk4
          clear hk4;go_wp2;go_quiet (fail)
          go_wp2_with fail
          go_meet
          case rel=>exact ⟨rfl,by rw [HU.out];rfl,Hi ((A6a _ _ _).trans (A6a _ _ _))⟩
        case rest =>
         obtain ⟨rfl,rfl,HBD⟩:=hcut;have HB5:=Hi (HB3.out.trans (HBD.out.mono HB3.out.size));by_cases hL:A4y l k
         ·rw [B6k hL];have HS:=Hi (E5i HA.out HOK.out HUO.out hL);clear hL;go_wp2;go_roundw
          case rel=>exact ⟨k+1,by omega,by go_num,Hi (D1f HZ.out HS.out),HB5⟩
          case measure=>simp [intOf];omega
         ·rw [B4g hL];have HF:=Hi (HAT.out 11 (C3h HA.out HOK.out HUO.out hL) (by decide));clear hL;go_wp2;go_ret;exact ⟨A4e HF.out,HB5.out⟩
       ·have HF:=Hi (HAT.out 10 (D9f HA.out HOK.out hU) (by decide));rw [C1q hU];clear hU;go_wp2;go_ret;exact ⟨A4e HF.out,HB3.out⟩
     ·have HF:=Hi (HAT.out 6 (C4r HA.out hO) (by decide));rw [C7t hO];clear hO;go_wp2;go_ret;exact ⟨A4e HF.out,HB2.out⟩
   ·have HF:=Hi (HAT.out _ (C5r hA) hA);go_wp2_with fail
    refine (D7u _ _ (HX.out.below ((Below.refl _ _).alloc lr _))).mono ?_;rintro e w1 ⟨rfl,hb⟩;have HB1:=Hi ((HB.out.alloc HB.out.size _).trans (hb.mono (by simp;exact Nat.le_succ_of_le HB.out.size)));clear hb h0 h1 h2 h3 h4 h5 h6 h7 h8 h9 h10;generalize A1b (ek l k)=q at *;go_wp2;go_ret;exact ⟨A4e HF.out,HB1.out⟩
  ·obtain rfl:k=l.length:=by omega
   have HF:=Hi (B7t hfew HZ.out);go_wp2;go_ret;exact ⟨A4e HF.out,HB.out⟩
theorem D2m (a : Option Addr) (cap : Nat) (w : World) :
 Calls Tryz.prog 48 #[.slice a 0 cap] w fun e w'=>e=.returned (.int .i64 0)/\w=w':=by
 go_enter Tryz.func48,Tryz.ntmps48;go_wp2
 go_loop [3,4,5,6,7,8,9,15] (fun _ _ _ _ _ _ _ i=>i=.int .i64 0) (fun _ _ _ _ _ _ _ _=>0)
 case atStart=>rfl
 case round =>
  obtain rfl:=hrel;go_wp2;go_ret;exact ⟨rfl,rfl⟩
theorem C5b (a b : ByteArray) (w : World) (hM : A1n w) (ha : a.size ≤ 1048576) (hb : b.size ≤ 1048576) :
 Calls Tryz.prog 113 #[.string a,.string b] w fun e w'=>e=.returned (.int .i64 (B7b (A8a a) (A8a b)))/\Below w.heap.size w w':=by
 have HX:=Hi (B4v ha);have HY:=Hi (B4v hb);have HM:=Hi hM;clear hM;go_enter Tryz.func113,Tryz.ntmps113;go_wp2_with fail
 refine (D9w _ _ HM.out (by omega)).mono ?_;rintro e w1 ⟨v1,rfl,ho,hb1⟩;have HB1:=Hi hb1;have HO1:=Hi ho;clear hb1 ho;go_wp2_with fail
 refine (D9w _ _ (HM.out.below HB1.out) (by omega)).mono ?_;rintro e w2 ⟨v2,rfl,ho,hb2⟩;have HB2:=Hi (HB1.out.trans (hb2.mono HB1.out.size));have HO2:=Hi (HO1.out.below hb2);have HP2:=Hi ho;clear hb2 ho;go_wp2_with fail
 refine (D6v _ _ _ _ _ _ _ HX.out HY.out HO2.out HP2.out).mono ?_;rintro e w3 ⟨rfl,hb3⟩;have HB3:=Hi (HB2.out.trans (hb3.mono HB2.out.size));clear hb3;go_wp2;go_ret;exact ⟨rfl,HB3.out⟩
end Go.Proofs.YtaffgndickdbiaaGreatDoor
