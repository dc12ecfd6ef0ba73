/-
  Texts: ResS.
-/
import Derived.Test.YtaffgndickdbiaaGreatDoorQ45
set_option linter.unusedVariables false
set_option linter.unusedSimpArgs false
set_option linter.unusedSectionVars false
namespace Go.Proofs.YtaffgndickdbiaaGreatDoor
open Go.Creel Go.RowKit
set_option maxRecDepth 100000 in
set_option maxHeartbeats 2000000 in
theorem ResSL_any (v : Value) (b : List UInt8) (s : ByteArray) (w : World) (h : SliceC maxLen 1 ByteC w [v] b) (hbl : b.length ≤ 1048576) (hs : s.size ≤ 1048576) (hM : MaxOk w) (hE : ErrsOk w) (hT : Pow10 w) :
 Calls Tryz.prog 32 #[v,.string s] w (RetTE 99 w (resSome b s)):=by
 have HAR:=Lib.hid (ResT_any v b w h hbl hM hE hT)
 obtain ⟨i0,hi,hz0,hz1,hz2⟩:=info_parts info_node
 have HI:=Lib.hid (And.intro hi (And.intro hz0 (And.intro hz1 hz2)))
 have hlen:=restored_len b
 have HSM:=Lib.hid (fun h=>restored_small (b:=b) h)
 obtain ⟨⟨l,e0⟩,hk⟩:∃ q,restored b=q:=⟨_,rfl⟩
 have HK1:=Lib.hid (fun he=>resSome_bad (s:=s) hk he)
 have HK2:=Lib.hid (fun he hf=>resSome_none (s:=s) hk he hf)
 have HK3:=Lib.hid (fun he hf=>resSome_ok (s:=s) hk he hf)
 rw [hk] at HAR hlen HSM
 simp only at hlen HSM
 clear h hM hE hT hk hi hz0 hz1 hz2
 go_enter Tryz.func32,Tryz.ntmps32
 go_wp2_with fail
 refine HAR.out.mono ?_
 rintro e w1 ⟨v1,c,rfl,ho,hbr,hb⟩
 have HB1:=Lib.hid hb
 have HO1:=Lib.hid ho
 have HBR:=Lib.hid hbr
 simp only at HBR
 have HLN:=Lib.hid (bare_len HBR.out)
 have hll:c.length<=40:=by rw [HLN.out];exact hlen
 have HS1:=Lib.hid (ho.slice (by unfold maxLen;omega))
 have HTF:=Lib.hid (treeFind_map s HBR.out)
 clear ho hbr hb HAR
 by_cases he:e0=0
 ·subst he
  have HSC:=Lib.hid (small_bare HBR.out (HSM.out (by first|rfl|trivial)))
  have HFI:=Lib.hid (FindN_any v1 c s w1 HS1.out)
  by_cases hfd:treeFind c s<c.length
  ·have hfi:findIE (treeFind c s) c.length=((treeFind c s:Int),0):=if_pos hfd
   rw [hfi] at HFI
   go_wp2_with fail
   refine HFI.out.mono ?_
   rintro e w2 ⟨rfl,hb⟩
   have HB2:=Lib.hid (HB1.out.trans (hb.mono HB1.out.size))
   have HO2:=Lib.hid (HO1.out.below hb)
   clear hb hfi
   obtain ⟨W0,hW⟩:∃ W:World,W=w2:=⟨_,rfl⟩
   subst hW
   rcases HO2.out.form with ⟨rfl,rfl⟩|⟨g,cap,rfl,hgB,hgw,hcap,hcm⟩
   ·exact absurd hfd (by simp)
   unfold maxLen at hcm
   go_wp2_with fail
   go_loopw [10,12,32] (fun v8 _ i wr=>∃ (k:Nat) (vv:Value),k<=c.length/\i = .int .i64 (k:Int)/\vv=v8/\Hid (OwnNods 99 wr W0.heap.size vv ((c.take k).filter (someB s)))/\Hid (Below W0.heap.size W0 wr)) (fun _ _ i _=>c.length-(intOf i).toNat)
   case atStart=>exact ⟨0,_,by omega,rfl,rfl,Lib.hid (OwnNods.nil _ _ _),Lib.hid (Below.refl _ _)⟩
   case round =>
    obtain ⟨k,vv,hk,rfl,rfl,HOW,HB⟩:=hrel
    by_cases hlt:k<c.length
    ·obtain ⟨h0,h1,h2,h3,h4,h5,h6,h7,h8,h9,h10,h11⟩:=(HO2.out.nodAt hlt).below HB.out
     have HKX:=Lib.hid (HO2.out.nodIn hlt).1
     have HPX:=Lib.hid (HSC.out (nk c k) (by rw [nk_eq hlt];exact List.getElem_mem hlt)).1
     have HKE:=Lib.hid (fun h=>filterTo_keep (p:=someB s) hlt h)
     have HSK:=Lib.hid (fun h=>filterTo_skip (p:=someB s) hlt h)
     have hcl:((c.take k).filter (someB s)).length<=k:=Nat.le_trans (List.length_filter_le _ _) (by rw [List.length_take];omega)
     generalize nk c k=x at *
     generalize hcc:(c.take k).filter (someB s)=cc at *
     clear hcc
     have HBX:=Lib.hid ((Below.refl wr.heap.size wr).alloc (Nat.le_refl _) (boxOf x))
     have HBZ:=Lib.hid (nodAt_box wr x 99)
     have HIN1:=Lib.hid (fun W:World=>In_any x.path s W (by omega))
     have HIN2:=Lib.hid (fun W:World=>In_any s x.path W (by have:=HPX.out;omega))
     have HSB:Hid (someB s x=(decide (x.path=s)||pathIn x.path s||pathIn s x.path)):=Lib.hid rfl
     by_cases hp:x.path=s
     ·have hbq:=seq_t hp
      have HKE2:=Lib.hid (HKE.out (by rw [HSB.out,decide_eq_true hp];rfl))
      clear hp HKE HSK HSB HIN1 HIN2
      go_upto_region 12 with fail
      generalize wr.alloc (.cells #[.string x.path,.int .i64 x.kind,.int .i64 x.same,.string x.target,.int .i64 x.mt.mode,.int .i64 x.mt.uid,.int .i64 x.mt.gid,.string x.mt.user,.string x.mt.group,.int .i64 x.mt.second,.int .i64 x.mt.nano,.slice x.da x.data.length x.dcap] 99)=W9 at *
      obtain ⟨d0,d1,d2,d3,d4,d5,d6,d7,d8,d9,d10,d11⟩:=HBZ.out.zero
      have HA:=Lib.hid (HBX.out.alloc HBX.out.size (boxOf x))
      have HO3:=Lib.hid (HOW.out.below HA.out)
      have HBA:=Lib.hid (HB.out.trans (HA.out.mono HB.out.size))
      have HN3:=Lib.hid (nodIn_arg HKX.out HBA.out HOW.out)
      have HFIN:=Lib.hid (show ∀ v2 w4',w4'.ownsRow W0.heap.size 99 12 v2 (cc.length+1) (cc.flatMap Nod.cells++[x].flatMap Nod.cells)->(W9.alloc (boxOf x)).grownBy w4' vv.ownBlock->(v2.ownBlock=vv.ownBlock\/∃ b,v2.ownBlock=some b/\(W9.alloc (boxOf x)).heap.size<=b)->OwnNods 99 w4' W0.heap.size v2 (cc++[x])/\Below W0.heap.size W0 w4' from
       fun v2 w4' ho2 hg2 hv2=>⟨HO3.out.app (m:=[x]) (fun y hy=>by rw [List.mem_singleton.1 hy];exact HN3.out) ho2 hg2 hv2,below_app HBA.out hg2 HO3.out.1 HBA.out.size⟩)
      go_wp2_with (at_builtin;refine wpList_app _ rfl (.tmp 52) (.tmp 54) 51 51 rfl _ _ rfl rfl (fun ty=>app_src _ 51 51 ty W0.heap.size 99 i0 _ 12 144 Tryz.underlying51 HI.out.1 HI.out.2.1 HI.out.2.2.1 HI.out.2.2.2 rfl (by decide) _ _ cc.length 1 _ _ HO3.out.1 (src_nod W9 _ _ _ Tryz.underlying51 x) (by unfold maxLen;omega) (by omega) HBA.out.size) ?_;intro v2 w5 ho2 hg2 hv2;have HZ:=Lib.hid (HFIN.out v2 w5 ho2 hg2 hv2.2);clear ho2 hg2 hv2)
      go_wp2
      go_roundw
      case rel=>exact ⟨k+1,_,by omega,by go_num,rfl,Lib.hid (by rw [HKE2.out];exact HZ.out.1),Lib.hid HZ.out.2⟩
      case measure=>simp [intOf];omega
     ·have hbq:=seq_f hp
      have HD0:=Lib.hid (decide_eq_false hp)
      clear hp
      generalize hq1:pathIn x.path s=p1 at *
      generalize hq2:pathIn s x.path=p2 at *
      rw [HD0.out] at HSB
      clear hq1 hq2
      cases p1 with
      | true =>
        have HKE2:=Lib.hid (HKE.out (by rw [HSB.out];rfl))
        clear HKE HSK HSB HIN2
        go_wp2_with fail
        refine (HIN1.out _).mono ?_
        rintro e w3 ⟨rfl,rfl⟩
        go_upto_region 12 with fail
        generalize wr.alloc (.cells #[.string x.path,.int .i64 x.kind,.int .i64 x.same,.string x.target,.int .i64 x.mt.mode,.int .i64 x.mt.uid,.int .i64 x.mt.gid,.string x.mt.user,.string x.mt.group,.int .i64 x.mt.second,.int .i64 x.mt.nano,.slice x.da x.data.length x.dcap] 99)=W9 at *
        obtain ⟨d0,d1,d2,d3,d4,d5,d6,d7,d8,d9,d10,d11⟩:=HBZ.out.zero
        have HA:=Lib.hid (HBX.out.alloc HBX.out.size (boxOf x))
        have HO3:=Lib.hid (HOW.out.below HA.out)
        have HBA:=Lib.hid (HB.out.trans (HA.out.mono HB.out.size))
        have HN3:=Lib.hid (nodIn_arg HKX.out HBA.out HOW.out)
        have HFIN:=Lib.hid (show ∀ v2 w4',w4'.ownsRow W0.heap.size 99 12 v2 (cc.length+1) (cc.flatMap Nod.cells++[x].flatMap Nod.cells)->(W9.alloc (boxOf x)).grownBy w4' vv.ownBlock->(v2.ownBlock=vv.ownBlock\/∃ b,v2.ownBlock=some b/\(W9.alloc (boxOf x)).heap.size<=b)->OwnNods 99 w4' W0.heap.size v2 (cc++[x])/\Below W0.heap.size W0 w4' from
         fun v2 w4' ho2 hg2 hv2=>⟨HO3.out.app (m:=[x]) (fun y hy=>by rw [List.mem_singleton.1 hy];exact HN3.out) ho2 hg2 hv2,below_app HBA.out hg2 HO3.out.1 HBA.out.size⟩)
        go_wp2_with (at_builtin;refine wpList_app _ rfl (.tmp 52) (.tmp 54) 51 51 rfl _ _ rfl rfl (fun ty=>app_src _ 51 51 ty W0.heap.size 99 i0 _ 12 144 Tryz.underlying51 HI.out.1 HI.out.2.1 HI.out.2.2.1 HI.out.2.2.2 rfl (by decide) _ _ cc.length 1 _ _ HO3.out.1 (src_nod W9 _ _ _ Tryz.underlying51 x) (by unfold maxLen;omega) (by omega) HBA.out.size) ?_;intro v2 w5 ho2 hg2 hv2;have HZ:=Lib.hid (HFIN.out v2 w5 ho2 hg2 hv2.2);clear ho2 hg2 hv2)
        go_wp2
        go_roundw
        case rel=>exact ⟨k+1,_,by omega,by go_num,rfl,Lib.hid (by rw [HKE2.out];exact HZ.out.1),Lib.hid HZ.out.2⟩
        case measure=>simp [intOf];omega
      | false =>
        go_wp2_with fail
        refine (HIN1.out _).mono ?_
        rintro e w3 ⟨rfl,rfl⟩
        go_wp2_with fail
        refine (HIN2.out _).mono ?_
        rintro e w3 ⟨rfl,rfl⟩
        cases p2 with
        | true =>
          have HKE2:=Lib.hid (HKE.out (by rw [HSB.out];rfl))
          clear HKE HSK HSB
          go_upto_region 12 with fail
          generalize wr.alloc (.cells #[.string x.path,.int .i64 x.kind,.int .i64 x.same,.string x.target,.int .i64 x.mt.mode,.int .i64 x.mt.uid,.int .i64 x.mt.gid,.string x.mt.user,.string x.mt.group,.int .i64 x.mt.second,.int .i64 x.mt.nano,.slice x.da x.data.length x.dcap] 99)=W9 at *
          obtain ⟨d0,d1,d2,d3,d4,d5,d6,d7,d8,d9,d10,d11⟩:=HBZ.out.zero
          have HA:=Lib.hid (HBX.out.alloc HBX.out.size (boxOf x))
          have HO3:=Lib.hid (HOW.out.below HA.out)
          have HBA:=Lib.hid (HB.out.trans (HA.out.mono HB.out.size))
          have HN3:=Lib.hid (nodIn_arg HKX.out HBA.out HOW.out)
          have HFIN:=Lib.hid (show ∀ v2 w4',w4'.ownsRow W0.heap.size 99 12 v2 (cc.length+1) (cc.flatMap Nod.cells++[x].flatMap Nod.cells)->(W9.alloc (boxOf x)).grownBy w4' vv.ownBlock->(v2.ownBlock=vv.ownBlock\/∃ b,v2.ownBlock=some b/\(W9.alloc (boxOf x)).heap.size<=b)->OwnNods 99 w4' W0.heap.size v2 (cc++[x])/\Below W0.heap.size W0 w4' from
           fun v2 w4' ho2 hg2 hv2=>⟨HO3.out.app (m:=[x]) (fun y hy=>by rw [List.mem_singleton.1 hy];exact HN3.out) ho2 hg2 hv2,below_app HBA.out hg2 HO3.out.1 HBA.out.size⟩)
          go_wp2_with (at_builtin;refine wpList_app _ rfl (.tmp 52) (.tmp 54) 51 51 rfl _ _ rfl rfl (fun ty=>app_src _ 51 51 ty W0.heap.size 99 i0 _ 12 144 Tryz.underlying51 HI.out.1 HI.out.2.1 HI.out.2.2.1 HI.out.2.2.2 rfl (by decide) _ _ cc.length 1 _ _ HO3.out.1 (src_nod W9 _ _ _ Tryz.underlying51 x) (by unfold maxLen;omega) (by omega) HBA.out.size) ?_;intro v2 w5 ho2 hg2 hv2;have HZ:=Lib.hid (HFIN.out v2 w5 ho2 hg2 hv2.2);clear ho2 hg2 hv2)
          go_wp2
          go_roundw
          case rel=>exact ⟨k+1,_,by omega,by go_num,rfl,Lib.hid (by rw [HKE2.out];exact HZ.out.1),Lib.hid HZ.out.2⟩
          case measure=>simp [intOf];omega
        | false =>
          have HSK2:=Lib.hid (HSK.out (by rw [HSB.out];rfl))
          have HO4:=Lib.hid (HOW.out.below HBX.out)
          have HW4:=Lib.hid (HB.out.trans (HBX.out.mono HB.out.size))
          clear HKE HSK HSB
          go_wp2
          go_roundw
          case rel=>exact ⟨k+1,_,by omega,by go_num,rfl,Lib.hid (by rw [HSK2.out];exact HO4.out),HW4⟩
          case measure=>simp [intOf];omega
    ·obtain rfl:k=c.length:=by omega
     rw [List.take_length] at HOW
     have hcl:(c.filter (someB s)).length<=c.length:=List.length_filter_le _ _
     have HF:=Lib.hid (HK3.out (by first|rfl|trivial) (by rw [<-HTF.out,<-HLN.out];exact hfd))
     have HFB:=Lib.hid (filter_both (s:=s) HBR.out)
     clear HK1 HK2 HK3
     go_wp2_with fail
     refine (CopyL_any _ (c.filter (someB s)) _ (HOW.out.slice (by unfold maxLen;omega)) (by omega) (filter_dat _ (fun i hi=>by have:=(HSC.out (nk c i) (by rw [nk_eq hi];exact List.getElem_mem hi)).2;omega))).mono ?_
     rintro e w5 ⟨v5,c5,rfl,ho,hcb,hb⟩
     have HB5:=Lib.hid (HB2.out.trans ((HB.out.trans (hb.mono HB.out.size)).mono HB2.out.size))
     have HO5:=Lib.hid (ho.mono (Nat.le_trans HB2.out.size HB.out.size))
     have HC5:=Lib.hid (hcb.trans HFB.out)
     clear ho hcb hb
     go_wp2
     go_ret2
     rw [HF.out]
     exact ⟨_,c5,rfl,HO5.out,HC5.out,HB5.out⟩
  ·have hfi:findIE (treeFind c s) c.length=(0,5):=if_neg hfd
   rw [hfi] at HFI
   have HF:=Lib.hid (HK2.out (by first|rfl|trivial) (by rw [<-HTF.out,<-HLN.out];exact hfd))
   clear HK1 HK2 HK3 hfd hfi
   go_wp2_with fail
   refine HFI.out.mono ?_
   rintro e w2 ⟨rfl,hb⟩
   have HB2:=Lib.hid (HB1.out.trans (hb.mono HB1.out.size))
   clear hb
   go_wp2
   go_ret2
   rw [HF.out]
   exact ⟨_,[],rfl,OwnNods.nil _ _ _,rfl,HB2.out⟩
 ·have hq:(e0 != 0)=true:=by rw [bne_iff_ne];exact he
  have HF:=Lib.hid (HK1.out he)
  clear HK1 HK2 HK3 he
  go_wp2
  go_ret2
  rw [HF.out]
  exact ⟨_,[],rfl,OwnNods.nil _ _ _,rfl,HB1.out⟩
set_option maxRecDepth 100000 in
set_option maxHeartbeats 2000000 in
theorem ResSR_any (v : Value) (b : List UInt8) (s : ByteArray) (w : World) (h : SliceC maxLen 1 ByteC w [v] b) (hbl : b.length ≤ 1048576) (hs : s.size ≤ 1048576) (hM : MaxOk w) (hE : ErrsOk w) (hT : Pow10 w) :
 Calls Tryz.prog 33 #[v,.string s] w (RetTE 99 w (resSome b s)):=by
 have HAR:=Lib.hid (ResR_any v b w h hbl hM hE hT)
 obtain ⟨i0,hi,hz0,hz1,hz2⟩:=info_parts info_node
 have HI:=Lib.hid (And.intro hi (And.intro hz0 (And.intro hz1 hz2)))
 have hlen:=restored_len b
 have HSM:=Lib.hid (fun h=>restored_small (b:=b) h)
 obtain ⟨⟨l,e0⟩,hk⟩:∃ q,restored b=q:=⟨_,rfl⟩
 have HK1:=Lib.hid (fun he=>resSome_bad (s:=s) hk he)
 have HK2:=Lib.hid (fun he hf=>resSome_none (s:=s) hk he hf)
 have HK3:=Lib.hid (fun he hf=>resSome_ok (s:=s) hk he hf)
 rw [hk] at HAR hlen HSM
 simp only at hlen HSM
 clear h hM hE hT hk hi hz0 hz1 hz2
 go_enter Tryz.func33,Tryz.ntmps33
 go_wp2_with fail
 refine HAR.out.mono ?_
 rintro e w1 ⟨v1,c,rfl,ho,hbr,hb⟩
 have HB1:=Lib.hid hb
 have HO1:=Lib.hid ho
 have HBR:=Lib.hid hbr
 simp only at HBR
 have HLN:=Lib.hid (bare_len HBR.out)
 have hll:c.length<=40:=by rw [HLN.out];exact hlen
 have HS1:=Lib.hid (ho.slice (by unfold maxLen;omega))
 have HTF:=Lib.hid (treeFind_map s HBR.out)
 clear ho hbr hb HAR
 by_cases he:e0=0
 ·subst he
  have HSC:=Lib.hid (small_bare HBR.out (HSM.out (by first|rfl|trivial)))
  have HFI:=Lib.hid (TreeFindN_any v1 c s w1 HS1.out)
  have hfle:=treeFind_le c s
  by_cases hfd:treeFind c s<c.length
  ·have hqf:(((treeFind c s:Nat):Int)==(c.length:Int))=false:=by rw [beq_eq_false_iff_ne];omega
   go_wp2_with fail
   refine HFI.out.mono ?_
   rintro e w2 ⟨rfl,rfl⟩
   have HB2:=HB1
   have HO2:=HO1
   obtain ⟨w2,rfl⟩:∃ W:World,W=w1:=⟨_,rfl⟩
   obtain ⟨W0,hW⟩:∃ W:World,W=w2:=⟨_,rfl⟩
   subst hW
   rcases HO2.out.form with ⟨rfl,rfl⟩|⟨g,cap,rfl,hgB,hgw,hcap,hcm⟩
   ·exact absurd hfd (by simp)
   unfold maxLen at hcm
   go_wp2_with fail
   go_loopw [8,10,27] (fun v8 _ i wr=>∃ (k:Nat) (vv:Value),k<=c.length/\i = .int .i64 (k:Int)/\vv=v8/\Hid (OwnNods 99 wr W0.heap.size vv ((c.take k).filter (someB s)))/\Hid (Below W0.heap.size W0 wr)) (fun _ _ i _=>c.length-(intOf i).toNat)
   case atStart=>exact ⟨0,_,by omega,rfl,rfl,Lib.hid (OwnNods.nil _ _ _),Lib.hid (Below.refl _ _)⟩
   case round =>
    obtain ⟨k,vv,hk,rfl,rfl,HOW,HB⟩:=hrel
    by_cases hlt:k<c.length
    ·obtain ⟨h0,h1,h2,h3,h4,h5,h6,h7,h8,h9,h10,h11⟩:=(HO2.out.nodAt hlt).below HB.out
     have HKX:=Lib.hid (HO2.out.nodIn hlt).1
     have HPX:=Lib.hid (HSC.out (nk c k) (by rw [nk_eq hlt];exact List.getElem_mem hlt)).1
     have HKE:=Lib.hid (fun h=>filterTo_keep (p:=someB s) hlt h)
     have HSK:=Lib.hid (fun h=>filterTo_skip (p:=someB s) hlt h)
     have hcl:((c.take k).filter (someB s)).length<=k:=Nat.le_trans (List.length_filter_le _ _) (by rw [List.length_take];omega)
     generalize nk c k=x at *
     generalize hcc:(c.take k).filter (someB s)=cc at *
     clear hcc
     have HBX:=Lib.hid ((Below.refl wr.heap.size wr).alloc (Nat.le_refl _) (boxOf x))
     have HBZ:=Lib.hid (nodAt_box wr x 99)
     have HIN1:=Lib.hid (fun W:World=>PathIn_any x.path s W (by have:=HPX.out;omega) (by omega))
     have HIN2:=Lib.hid (fun W:World=>PathIn_any s x.path W (by omega) (by have:=HPX.out;omega))
     have HSB:Hid (someB s x=(decide (x.path=s)||pathIn x.path s||pathIn s x.path)):=Lib.hid rfl
     by_cases hp:x.path=s
     ·have hbq:=seq_t hp
      have HKE2:=Lib.hid (HKE.out (by rw [HSB.out,decide_eq_true hp];rfl))
      clear hp HKE HSK HSB HIN1 HIN2
      go_upto_region 11 with fail
      generalize wr.alloc (.cells #[.string x.path,.int .i64 x.kind,.int .i64 x.same,.string x.target,.int .i64 x.mt.mode,.int .i64 x.mt.uid,.int .i64 x.mt.gid,.string x.mt.user,.string x.mt.group,.int .i64 x.mt.second,.int .i64 x.mt.nano,.slice x.da x.data.length x.dcap] 99)=W9 at *
      obtain ⟨d0,d1,d2,d3,d4,d5,d6,d7,d8,d9,d10,d11⟩:=HBZ.out.zero
      have HA:=Lib.hid (HBX.out.alloc HBX.out.size (boxOf x))
      have HO3:=Lib.hid (HOW.out.below HA.out)
      have HBA:=Lib.hid (HB.out.trans (HA.out.mono HB.out.size))
      have HN3:=Lib.hid (nodIn_arg HKX.out HBA.out HOW.out)
      have HFIN:=Lib.hid (show ∀ v2 w4',w4'.ownsRow W0.heap.size 99 12 v2 (cc.length+1) (cc.flatMap Nod.cells++[x].flatMap Nod.cells)->(W9.alloc (boxOf x)).grownBy w4' vv.ownBlock->(v2.ownBlock=vv.ownBlock\/∃ b,v2.ownBlock=some b/\(W9.alloc (boxOf x)).heap.size<=b)->OwnNods 99 w4' W0.heap.size v2 (cc++[x])/\Below W0.heap.size W0 w4' from
       fun v2 w4' ho2 hg2 hv2=>⟨HO3.out.app (m:=[x]) (fun y hy=>by rw [List.mem_singleton.1 hy];exact HN3.out) ho2 hg2 hv2,below_app HBA.out hg2 HO3.out.1 HBA.out.size⟩)
      go_wp2_with (at_builtin;refine wpList_app _ rfl (.tmp 47) (.tmp 49) 51 51 rfl _ _ rfl rfl (fun ty=>app_src _ 51 51 ty W0.heap.size 99 i0 _ 12 144 Tryz.underlying51 HI.out.1 HI.out.2.1 HI.out.2.2.1 HI.out.2.2.2 rfl (by decide) _ _ cc.length 1 _ _ HO3.out.1 (src_nod W9 _ _ _ Tryz.underlying51 x) (by unfold maxLen;omega) (by omega) HBA.out.size) ?_;intro v2 w5 ho2 hg2 hv2;have HZ:=Lib.hid (HFIN.out v2 w5 ho2 hg2 hv2.2);clear ho2 hg2 hv2)
      go_wp2
      go_roundw
      case rel=>exact ⟨k+1,_,by omega,by go_num,rfl,Lib.hid (by rw [HKE2.out];exact HZ.out.1),Lib.hid HZ.out.2⟩
      case measure=>simp [intOf];omega
     ·have hbq:=seq_f hp
      have HD0:=Lib.hid (decide_eq_false hp)
      clear hp
      generalize hq1:pathIn x.path s=p1 at *
      generalize hq2:pathIn s x.path=p2 at *
      rw [HD0.out] at HSB
      clear hq1 hq2
      cases p1 with
      | true =>
        have HKE2:=Lib.hid (HKE.out (by rw [HSB.out];rfl))
        clear HKE HSK HSB HIN2
        go_wp2_with fail
        refine (HIN1.out _).mono ?_
        rintro e w3 ⟨rfl,hb⟩
        have HB3:=Lib.hid (HBX.out.trans (hb.mono HBX.out.size))
        obtain ⟨d0,d1,d2,d3,d4,d5,d6,d7,d8,d9,d10,d11⟩:=(HBZ.out.below hb).zero
        have HBZ3:=Lib.hid (HBZ.out.below hb)
        clear hb
        go_upto_region 11 with fail
        have HA:=Lib.hid (HB3.out.alloc HB3.out.size (boxOf x))
        have HO3:=Lib.hid (HOW.out.below HA.out)
        have HBA:=Lib.hid (HB.out.trans (HA.out.mono HB.out.size))
        have HN3:=Lib.hid (nodIn_arg HKX.out HBA.out HOW.out)
        have HFIN:=Lib.hid (show ∀ v2 w4',w4'.ownsRow W0.heap.size 99 12 v2 (cc.length+1) (cc.flatMap Nod.cells++[x].flatMap Nod.cells)->(w3.alloc (boxOf x)).grownBy w4' vv.ownBlock->(v2.ownBlock=vv.ownBlock\/∃ b,v2.ownBlock=some b/\(w3.alloc (boxOf x)).heap.size<=b)->OwnNods 99 w4' W0.heap.size v2 (cc++[x])/\Below W0.heap.size W0 w4' from
         fun v2 w4' ho2 hg2 hv2=>⟨HO3.out.app (m:=[x]) (fun y hy=>by rw [List.mem_singleton.1 hy];exact HN3.out) ho2 hg2 hv2,below_app HBA.out hg2 HO3.out.1 HBA.out.size⟩)
        go_wp2_with (at_builtin;refine wpList_app _ rfl (.tmp 47) (.tmp 49) 51 51 rfl _ _ rfl rfl (fun ty=>app_src _ 51 51 ty W0.heap.size 99 i0 _ 12 144 Tryz.underlying51 HI.out.1 HI.out.2.1 HI.out.2.2.1 HI.out.2.2.2 rfl (by decide) _ _ cc.length 1 _ _ HO3.out.1 (src_nod w3 _ _ _ Tryz.underlying51 x) (by unfold maxLen;omega) (by omega) HBA.out.size) ?_;intro v2 w5 ho2 hg2 hv2;have HZ:=Lib.hid (HFIN.out v2 w5 ho2 hg2 hv2.2);clear ho2 hg2 hv2)
        go_wp2
        go_roundw
        case rel=>exact ⟨k+1,_,by omega,by go_num,rfl,Lib.hid (by rw [HKE2.out];exact HZ.out.1),Lib.hid HZ.out.2⟩
        case measure=>simp [intOf];omega
      | false =>
        go_wp2_with fail
        refine (HIN1.out _).mono ?_
        rintro e w3 ⟨rfl,hb⟩
        have HB3:=Lib.hid (HBX.out.trans (hb.mono HBX.out.size))
        obtain ⟨d0,d1,d2,d3,d4,d5,d6,d7,d8,d9,d10,d11⟩:=(HBZ.out.below hb).zero
        have HBZ3:=Lib.hid (HBZ.out.below hb)
        clear hb
        go_wp2_with fail
        refine (HIN2.out _).mono ?_
        rintro e w4 ⟨rfl,hb⟩
        have HB4:=Lib.hid (HB3.out.trans (hb.mono HB3.out.size))
        clear d0 d1 d2 d3 d4 d5 d6 d7 d8 d9 d10 d11
        obtain ⟨d0,d1,d2,d3,d4,d5,d6,d7,d8,d9,d10,d11⟩:=(HBZ3.out.below hb).zero
        clear hb
        cases p2 with
        | true =>
          have HKE2:=Lib.hid (HKE.out (by rw [HSB.out];rfl))
          clear HKE HSK HSB
          go_upto_region 11 with fail
          have HA:=Lib.hid (HB4.out.alloc HB4.out.size (boxOf x))
          have HO3:=Lib.hid (HOW.out.below HA.out)
          have HBA:=Lib.hid (HB.out.trans (HA.out.mono HB.out.size))
          have HN3:=Lib.hid (nodIn_arg HKX.out HBA.out HOW.out)
          have HFIN:=Lib.hid (show ∀ v2 w4',w4'.ownsRow W0.heap.size 99 12 v2 (cc.length+1) (cc.flatMap Nod.cells++[x].flatMap Nod.cells)->(w4.alloc (boxOf x)).grownBy w4' vv.ownBlock->(v2.ownBlock=vv.ownBlock\/∃ b,v2.ownBlock=some b/\(w4.alloc (boxOf x)).heap.size<=b)->OwnNods 99 w4' W0.heap.size v2 (cc++[x])/\Below W0.heap.size W0 w4' from
           fun v2 w4' ho2 hg2 hv2=>⟨HO3.out.app (m:=[x]) (fun y hy=>by rw [List.mem_singleton.1 hy];exact HN3.out) ho2 hg2 hv2,below_app HBA.out hg2 HO3.out.1 HBA.out.size⟩)
          go_wp2_with (at_builtin;refine wpList_app _ rfl (.tmp 47) (.tmp 49) 51 51 rfl _ _ rfl rfl (fun ty=>app_src _ 51 51 ty W0.heap.size 99 i0 _ 12 144 Tryz.underlying51 HI.out.1 HI.out.2.1 HI.out.2.2.1 HI.out.2.2.2 rfl (by decide) _ _ cc.length 1 _ _ HO3.out.1 (src_nod w4 _ _ _ Tryz.underlying51 x) (by unfold maxLen;omega) (by omega) HBA.out.size) ?_;intro v2 w5 ho2 hg2 hv2;have HZ:=Lib.hid (HFIN.out v2 w5 ho2 hg2 hv2.2);clear ho2 hg2 hv2)
          go_wp2
          go_roundw
          case rel=>exact ⟨k+1,_,by omega,by go_num,rfl,Lib.hid (by rw [HKE2.out];exact HZ.out.1),Lib.hid HZ.out.2⟩
          case measure=>simp [intOf];omega
        | false =>
          have HSK2:=Lib.hid (HSK.out (by rw [HSB.out];rfl))
          have HO4:=Lib.hid (HOW.out.below HB4.out)
          have HW4:=Lib.hid (HB.out.trans (HB4.out.mono HB.out.size))
          clear HKE HSK HSB
          go_wp2
          go_roundw
          case rel=>exact ⟨k+1,_,by omega,by go_num,rfl,Lib.hid (by rw [HSK2.out];exact HO4.out),HW4⟩
          case measure=>simp [intOf];omega
    ·obtain rfl:k=c.length:=by omega
     rw [List.take_length] at HOW
     have hcl:(c.filter (someB s)).length<=c.length:=List.length_filter_le _ _
     have HF:=Lib.hid (HK3.out (by first|rfl|trivial) (by rw [<-HTF.out,<-HLN.out];exact hfd))
     have HFB:=Lib.hid (filter_both (s:=s) HBR.out)
     clear HK1 HK2 HK3
     go_wp2_with fail
     refine (CopyR_any _ (c.filter (someB s)) _ (HOW.out.slice (by unfold maxLen;omega)) (by omega) (filter_dat _ (fun i hi=>by have:=(HSC.out (nk c i) (by rw [nk_eq hi];exact List.getElem_mem hi)).2;omega))).mono ?_
     rintro e w5 ⟨v5,c5,rfl,ho,hcb,hb⟩
     have HB5:=Lib.hid (HB2.out.trans ((HB.out.trans (hb.mono HB.out.size)).mono HB2.out.size))
     have HO5:=Lib.hid (ho.mono (Nat.le_trans HB2.out.size HB.out.size))
     have HC5:=Lib.hid (hcb.trans HFB.out)
     clear ho hcb hb
     go_wp2
     go_ret2
     rw [HF.out]
     exact ⟨_,c5,rfl,HO5.out,HC5.out,HB5.out⟩
  ·have hfe:treeFind c s=c.length:=by omega
   obtain ⟨av,cv,hv⟩:∃ a cp,v1 = .slice a c.length cp:=by
    rcases HO1.out.form with ⟨h1,h2⟩|⟨g,cp,h1,_⟩
    ·exact ⟨none,0,by rw [h1,h2];rfl⟩
    ·exact ⟨_,cp,h1⟩
   subst hv
   have hqf:((c.length:Int)==(c.length:Int))=true:=by simp
   have HF:=Lib.hid (HK2.out (by first|rfl|trivial) (by rw [<-HTF.out,<-HLN.out];exact hfd))
   rw [hfe] at HFI
   clear HK1 HK2 HK3 hfd hfe hfle
   go_wp2_with fail
   refine HFI.out.mono ?_
   rintro e w2 ⟨rfl,rfl⟩
   go_wp2
   go_ret2
   rw [HF.out]
   exact ⟨_,[],rfl,OwnNods.nil _ _ _,rfl,HB1.out⟩
 ·have hq:(e0 != 0)=true:=by rw [bne_iff_ne];exact he
  have HF:=Lib.hid (HK1.out he)
  clear HK1 HK2 HK3 he
  go_wp2
  go_ret2
  rw [HF.out]
  exact ⟨_,[],rfl,OwnNods.nil _ _ _,rfl,HB1.out⟩
end Go.Proofs.YtaffgndickdbiaaGreatDoor
