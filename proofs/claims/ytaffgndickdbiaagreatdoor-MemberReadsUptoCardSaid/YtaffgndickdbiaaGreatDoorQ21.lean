/-
  Texts: MemW, UnpackOk, NodSpec, Tree.
-/
import Derived.Test.YtaffgndickdbiaaGreatDoorQ19
import Derived.Test.YtaffgndickdbiaaGreatDoorQ20
set_option linter.unusedVariables false
set_option linter.unusedSimpArgs false
set_option linter.unusedSectionVars false
namespace Go.Creel
open Go.RowKit
def RetM (t : TypeId) (w : World) (p : List UInt8 × Int) (e : Ending) (w' : World) : Prop := ∃ v,e = .returned (.tuple #[v,.int .i64 p.2]) ∧ OwnM t w' w.heap.size v p.1 ∧ Below w.heap.size w w'
theorem EntAt.data {w : World} {b : Nat} {x : Ent} (h : EntAt w b 0 x) : w.cell? ⟨b,10,none⟩ = some (.slice x.da x.data.length x.dcap) := h.zero.2.2.2.2.2.2.2.2.2.2
theorem OwnM.keep {t : TypeId} {w w' : World} {B : Nat} {v : Value} {l : List UInt8} {row : Option Nat} (h : OwnM t w B v l) (hg : w.grownBy w' row) (hr : ∀ k,row = some k → k < B) : OwnM t w' B v l := by
 rcases h with h|⟨g,cap,cur,lo,hi,h1,h2,h3,h4⟩
 ·exact .inl h
 ·obtain ⟨_,_,_,_,a5⟩:=hg
  refine .inr ⟨g,cap,cur,lo,hi,h1,h2,(a5 g (Array.getElem?_eq_some_iff.1 h3).1 (fun e=>?_)).trans h3,h4⟩
  have:=hr g e.symm
  omega
end Go.Creel
namespace Go.Proofs.YtaffgndickdbiaaGreatDoor
open Go.Creel Go.RowKit
theorem conv_str (w : World) (s : ByteArray) : (convert 9 24 (.string s)).run Tryz.prog w = .ok (.slice (some ⟨w.heap.size,0,none⟩) s.size (grownCap w s.size 0 5)) (Lib.bytesWorld w 5 s) :=
 Lib.run_convert_string_bytes w _ _ _ s Tryz.underlying9 Tryz.underlying24 Tryz.underlying5
theorem PaxHeadW_any (n : Nat) (w : World) (hn : n ≤ 10000) :
 Calls Tryz.prog 39 #[.agg #[.string ⟨#[64,112,97,120]⟩,.string ⟨#[]⟩,.string ⟨#[]⟩,.int .i64 0,.int .i64 0,.int .i64 0,.int .i64 n,.int .i64 0,.int .u8 120,.string ⟨#[]⟩,.string ⟨#[]⟩]] w fun e w'=>e = .returned (.tuple #[.string (headText (paxHead n)).1,.int .i64 (headText (paxHead n)).2])/\Below w.heap.size w w' :=
 HeadWrite_any (paxHead n) w (by constructor<;>simp only [paxHead]<;>first|decide|(unfold i64;omega))
set_option maxRecDepth 100000 in
set_option maxHeartbeats 1000000 in
theorem MemW_ok (x : Ent) (w : World) (hM : MaxOk w) (hx : x.Ok maxLen w) (hE : entFault x = 0) (hT : Pow10 w) :
 Calls Tryz.prog 11 #[x.val] w (RetM 5 w (memB x,0)):=by
 obtain ⟨i0,hi,hz0,hz1,hz2⟩:=info_parts info_byte2
 have HI:=Lib.hid (And.intro hi (And.intro hz0 (And.intro hz1 hz2)))
 have HR:=Lib.hid (entRight hE)
 have HBX:=Lib.hid ((Below.refl w.heap.size w).alloc (Nat.le_refl _) (.cells #[.string x.path,.int .i64 x.kind,.string x.target,.int .i64 x.mt.mode,.int .i64 x.mt.uid,.int .i64 x.mt.gid,.string x.mt.user,.string x.mt.group,.int .i64 x.mt.second,.int .i64 x.mt.nano,.slice x.da x.data.length x.dcap] 26))
 have HEB:=Lib.hid (entAt_box w x 26)
 have HPR:=Lib.hid (fun W hb=>PlanRight_any x W (hM.below (w':=W) hb) hx.path hx.target hx.mt (by obtain ⟨_,_,_,_,_,h,_⟩:=hx.data;exact h) hx.kind (Nat.le_refl _))
 rw [hE] at HPR
 have HXD:=Lib.hid hx.data
 have HT:=Lib.hid hT
 have HPK:=Lib.hid (fun W h=>Pack_any x W HR h)
 have HSM:=Lib.hid (memRecs_small HR.out)
 have HMH:=Lib.hid (memHead_small HR.out)
 have HLN:=Lib.hid (rl7_len x)
 rw [rl7_eq] at HLN
 have hdl:=HR.out.data
 have HF:Hid (∀ P M D,memPre (memRecs x)=P->(headText (memHead x)).1.data.toList=M->padFill x.data=D->memB x=(P++M)++D):=Lib.hid (fun P M D h1 h2 h3=>by unfold memB memOwn;rw [h1,h2,h3,List.append_assoc])
 clear hM hx hE hT hi hz0 hz1 hz2
 go_enter Tryz.func11,Tryz.ntmps11
 go_wp2_with fail
 refine (HPR.out _ HBX.out).mono ?_
 rintro e w1 ⟨rfl,hb⟩
 have HB1:=Lib.hid (HBX.out.trans (hb.mono HBX.out.size))
 have HE1:=Lib.hid (HEB.out.below hb)
 clear hb
 obtain ⟨h0,h1,h2,h3,h4,h5,h6,h7,h8,h9,h10⟩:=HE1.out.zero
 go_wp2_with fail
 refine (HPK.out _ (HT.out.below HB1.out)).mono ?_
 rintro e w2 ⟨b,v,rfl,s⟩
 have S:=Lib.hid s
 have HB2:=Lib.hid (HB1.out.trans (S.out.bel.mono HB1.out.size))
 have HE2:=Lib.hid (HE1.out.below S.out.bel)
 clear s h0 h1 h2 h3 h4 h5 h6 h7 h8 h9 h10
 generalize memHead x=mh at *
 generalize memRecs x=l at *
 obtain ⟨a,cp,hv,hcp,_⟩:=OwnRecs.form2 S.out.own
 have c11:w2.cell? ⟨b,11,none⟩=some v:=S.out.cell 11
 subst hv
 go_upto_region 6 with fail
 go_cut [25] from 20 to 25 (fun u wy=>∃ q,u = .bool q/\Hid (q=decide (0<l.length))/\wy=w2)
 case first =>
  have hdd:decide ((0:Int)<(l.length:Int))=decide (0<l.length):=by rw [decide_eq_decide];omega
  go_wp2
  go_meet
  exact ⟨_,rfl,Lib.hid (by first|rfl|exact hdd|(rw [hdd])),rfl⟩
 case rest =>
 obtain ⟨q,rfl,HQ,rfl⟩:=hcut
 obtain ⟨w2,rfl⟩:∃ W:World,W=wc:=⟨_,rfl⟩
 go_step
 go_cut [6,7,8,9,10,25] from 26 to 47 (fun u6 _ _ _ _ u25 wy=>u25 = .bool q/\Hid (OwnM 5 wy w2.heap.size u6 (memPre l))/\Hid (Below w2.heap.size w2 wy))
 case first =>
  cases q with
  | false =>
    have hl0:l.length=0:=by have:=of_decide_eq_false HQ.out.symm;omega
    have HPN:=Lib.hid (memPre_no hl0)
    clear hl0
    go_wp2
    go_meet
    exact ⟨rfl,Lib.hid (by rw [HPN.out];exact OwnM.nil _ _ _),Lib.hid (Below.refl _ _)⟩
  | true =>
    have hl0:¬ l.length=0:=by have:=of_decide_eq_true HQ.out.symm;omega
    have HPY:=Lib.hid (memPre_yes hl0)
    have HSL:=Lib.hid (OwnRecs.slice S.out.own (by have:=HLN.out;unfold maxLen;omega) HSM.out)
    have hpl:=paxWrite_le l
    have HPW:=Lib.hid (fun w h hT=>PaxW_any (.slice a l.length cp) l w h hT)
    have hht:=headText_le (paxHead (paxWrite l).1.size)
    clear hl0
    go_wp2_with fail
    refine (HPW.out _ HSL.out (HT.out.below HB2.out)).mono ?_
    rintro e w3 ⟨rfl,hb⟩
    have HB3:=Lib.hid hb
    clear hb HPW HSL
    generalize (paxWrite l).1=pt at *
    generalize (paxWrite l).2=pe at *
    go_wp2_with fail
    refine (PaxHeadW_any pt.size _ (by omega)).mono ?_
    rintro e w3' ⟨rfl,hb⟩
    have HB9:=Lib.hid (HB3.out.trans (hb.mono HB3.out.size))
    clear hb HB3
    generalize (headText (paxHead pt.size)).1=ht at *
    generalize (headText (paxHead pt.size)).2=he at *
    have hcv:=fun w=>conv_str w pt
    have HBD:Hid (([]:List UInt8).length+ht.data.toList.length<=140737488355328):=Lib.hid (by rw [toL_len];simp;omega)
    go_wp2_with (at_builtin;refine wpList_appM rfl (.tmp 41) (.tmp 42) 24 9 rfl _ _ rfl rfl (fun ty=>app_m _ 24 9 5 ty i0 Tryz.underlying24 HI.out.1 HI.out.2.1 HI.out.2.2.1 HI.out.2.2.2 (OwnM.nil 5 _ w2.heap.size) (src_str Tryz.underlying9 ht) HBD.out HB9.out.size) ?_;intro v1 w4 ho hg;have HO4:=Lib.hid ho;have HB4:=Lib.hid (OwnM.grown HB9.out hg (OwnM.nil 5 _ w2.heap.size) HB9.out.size (Nat.le_refl _));clear ho hg)
    have HCV:=Lib.hid (conv_below w4 5 pt)
    have HCM:=Lib.hid (OwnM.conv w4 5 pt (by unfold maxLen;omega))
    generalize grownCap w4 pt.size 0 5=gc at *
    generalize Lib.bytesWorld w4 5 pt=w5 at *
    refine (Fill_any (N:=maxLen) _ pt.data.toList w5 (HCM.out.slice (by rw [toL_len];unfold maxLen;omega)) (by rw [toL_len];omega)).mono ?_
    rintro e w6 ⟨v6,rfl,ho,hb⟩
    have HO6:=Lib.hid (OwnBs.marked ho)
    have HB6:=Lib.hid ((HB4.out.trans (HCV.out.mono HB4.out.size)).trans (hb.mono (Nat.le_trans HB4.out.size HCV.out.size)))
    have HO5:=Lib.hid ((HO4.out.below HCV.out).below hb)
    clear ho hb
    have hpf:=padFill_le pt.data.toList
    rw [toL_len] at hpf
    have HBE:Hid (([]++ht.data.toList:List UInt8).length+(padFill pt.data.toList).length<=140737488355328):=Lib.hid (by rw [List.nil_append,toL_len];omega)
    go_wp2_with (at_builtin;refine wpList_appM rfl (.tmp 43) (.tmp 46) 24 24 rfl _ _ rfl rfl (fun ty=>app_m _ 24 24 5 ty i0 Tryz.underlying24 HI.out.1 HI.out.2.1 HI.out.2.2.1 HI.out.2.2.2 HO5.out (src_bytes (N:=maxLen) Tryz.underlying24 (HO6.out.slice (by unfold maxLen;omega))) HBE.out HB6.out.size) ?_;intro v7 w7 ho hg;have HO7:=Lib.hid ho;have HB7:=Lib.hid (OwnM.grown HB6.out hg HO5.out HB6.out.size (Nat.le_refl _));clear ho hg)
    go_meet
    exact ⟨rfl,Lib.hid (by rw [HPY.out];exact HO7.out),HB7⟩
 case rest =>
 obtain ⟨rfl,HOP,HBP⟩:=hcut
 obtain ⟨w3,rfl⟩:∃ W:World,W=wc:=⟨_,rfl⟩
 obtain ⟨vo,rfl⟩:∃ V:Value,V=u6:=⟨_,rfl⟩
 have S3:=Lib.hid (S.out.below HBP.out)
 have HB3:=HBP
 have HO3:=HOP
 have HPL:=Lib.hid (memPre_le l)
 have HF2:=Lib.hid (fun M D=>HF.out (memPre l) M D rfl)
 clear S HOP HBP HE1 HEB HB1 c11 HF
 generalize memPre l=P at *
 have c0:w3.cell? ⟨b,0,none⟩=some (.string mh.nm):=S3.out.cell 0
 have c1:w3.cell? ⟨b,1,none⟩=some (.string mh.px):=S3.out.cell 1
 have c2:w3.cell? ⟨b,2,none⟩=some (.string mh.lk):=S3.out.cell 2
 have c3:w3.cell? ⟨b,3,none⟩=some (.int .i64 mh.mode):=S3.out.cell 3
 have c4:w3.cell? ⟨b,4,none⟩=some (.int .i64 mh.uid):=S3.out.cell 4
 have c5:w3.cell? ⟨b,5,none⟩=some (.int .i64 mh.gid):=S3.out.cell 5
 have c6:w3.cell? ⟨b,6,none⟩=some (.int .i64 mh.size):=S3.out.cell 6
 have c7:w3.cell? ⟨b,7,none⟩=some (.int .i64 mh.time):=S3.out.cell 7
 have c8:w3.cell? ⟨b,8,none⟩=some (.int .u8 mh.typ.toNat):=S3.out.cell 8
 have c9:w3.cell? ⟨b,9,none⟩=some (.string mh.user):=S3.out.cell 9
 have c10:w3.cell? ⟨b,10,none⟩=some (.string mh.group):=S3.out.cell 10
 go_wp2_with fail
 refine (HeadWrite_any mh _ HMH.out).mono ?_
 rintro e w4 ⟨rfl,hb⟩
 have HB4:=Lib.hid (HB3.out.trans (hb.mono HB3.out.size))
 have HE4:=Lib.hid (HE2.out.below HB4.out)
 have HO4:=Lib.hid (HO3.out.below hb)
 have hht:=headText_le mh
 have HF3:=Lib.hid (fun D=>HF2.out _ D rfl)
 clear hb c0 c1 c2 c3 c4 c5 c6 c7 c8 c9 c10 S3 HO3 HB3 HF2
 generalize (headText mh).1=ht at *
 generalize (headText mh).2=he at *
 have HXD4:=Lib.hid (fun W (hb:Below w2.heap.size w2 W)=>HXD.out.below (w':=W) (fun _ _ h=>h) (HB2.out.trans (hb.mono HB2.out.size)))
 have hpd:=padFill_le x.data
 have hpl:=HPL.out
 have HBD:Hid (P.length+ht.data.toList.length<=140737488355328):=Lib.hid (by rw [toL_len];omega)
 have HBE:Hid ((P++ht.data.toList).length+(padFill x.data).length<=140737488355328):=Lib.hid (by rw [List.length_append,toL_len];omega)
 have HBD4:=Lib.hid (HB4.out.drew)
 have HOD4:=Lib.hid (HO4.out.below (Below.refl _ _).drew)
 have HED4:=Lib.hid (HE4.out.below (Below.refl _ _).drew)
 go_upto_region 11 with fail
 refine wp_region_noPanic ?_
 refine wp_region_held_drew (S:=fun w'=>w'.cell? ⟨w.heap.size,10,none⟩=some (.slice x.da x.data.length x.dcap)) (by kernel_rfl) HED4.out.data (fun hHeld=>?_)
 refine wpAnyH_take (i:=0) (v:=_) rfl (by kernel_rfl) (by kernel_rfl) (by kernel_rfl) (fun _ _ _ h=>h) (Or.inl ⟨by rfl,fun w5 hSw=>(by (try dsimp only at hSw);go_simp;try with_reducible rfl)⟩) hHeld ?_
 try simp only [List.getElem_toArray,List.getElem_cons_succ,List.getElem_cons_zero,Act.put,List.setIfInBounds_toArray,List.set_cons_zero,List.set_cons_succ]
 refine wpAnyH_take (i:=1) (v:=_) rfl (by kernel_rfl) (by kernel_rfl) (by kernel_rfl) (fun _ _ _ h=>h) (Or.inl ⟨by rfl,fun w5 hSw=>(by (try dsimp only at hSw);go_simp;try with_reducible rfl)⟩) hHeld ?_
 try simp only [List.getElem_toArray,List.getElem_cons_succ,List.getElem_cons_zero,Act.put,List.setIfInBounds_toArray,List.set_cons_zero,List.set_cons_succ]
 refine wpAnyH_take (i:=3) (v:=_) rfl (by kernel_rfl) (by kernel_rfl) (by kernel_rfl) (fun _ _ _ h=>h) (Or.inl ⟨by rfl,fun w5 hSw=>(by (try dsimp only at hSw);go_simp;try with_reducible rfl)⟩) hHeld ?_
 try simp only [List.getElem_toArray,List.getElem_cons_succ,List.getElem_cons_zero,Act.put,List.setIfInBounds_toArray,List.set_cons_zero,List.set_cons_succ]
 refine wpAnyH_take (i:=4) (v:=_) rfl (by kernel_rfl) (by kernel_rfl) (by kernel_rfl) (fun _ _ _ h=>h) (Or.inl ⟨by rfl,fun w5 hSw=>(by (try dsimp only at hSw);go_simp;try with_reducible rfl)⟩) hHeld ?_
 try simp only [List.getElem_toArray,List.getElem_cons_succ,List.getElem_cons_zero,Act.put,List.setIfInBounds_toArray,List.set_cons_zero,List.set_cons_succ]
 refine wpAnyH_ready (rs:=[2]) (by kernel_rfl) (by simp) ?_
 refine AllReadyH.cons rfl (fun K5 hK5=>?_) AllReadyH.nil
 refine step_appM (w:=w4.drew) rfl (.tmp 56) (.tmp 57) 24 9 rfl vo (.string ht) (by simp [Act.eval,Act.put]) (by simp [Act.eval,Act.put]) (fun ty=>app_m _ 24 9 5 ty i0 Tryz.underlying24 HI.out.1 HI.out.2.1 HI.out.2.2.1 HI.out.2.2.2 HOD4.out (src_str Tryz.underlying9 ht) HBD.out HBD4.out.size) ?_
 intro v5 w5 ho hg
 have HO5:=Lib.hid ho
 have HB5:=Lib.hid (OwnM.grown HBD4.out hg HOD4.out HBD4.out.size (Nat.le_refl _))
 clear ho hg
 refine hK5.out _ _ ((HE2.out.below HB5.out).data) (fun hHeld=>?_)
 clear hK5 K5
 try simp only [List.getElem_toArray,List.getElem_cons_succ,List.getElem_cons_zero,Act.put,List.setIfInBounds_toArray,List.set_cons_zero,List.set_cons_succ]
 refine wpAnyH_ready (rs:=[5]) (by kernel_rfl) (by simp) ?_
 refine AllReadyH.cons rfl (fun K5 hK5=>?_) AllReadyH.nil
 rw [if_pos (by rfl)]
 go_wp2_with (go_at_call 40;refine (Fill_any (N:=maxLen) _ x.data _ (HXD4.out _ HB5.out) (by omega)).mono ?_;rintro e w6 ⟨v6,rfl,ho,hb⟩)
 have HO6:=Lib.hid (OwnBs.marked ho)
 have HB6:=Lib.hid (HB5.out.trans (hb.mono HB5.out.size))
 have HO5b:=Lib.hid (HO5.out.below hb)
 clear ho hb
 refine hK5.out _ _ ((HE2.out.below HB6.out).data) (fun hHeld=>?_)
 clear hK5 K5
 try simp only [List.getElem_toArray,List.getElem_cons_succ,List.getElem_cons_zero,Act.put,List.setIfInBounds_toArray,List.set_cons_zero,List.set_cons_succ]
 refine wpAnyH_ready (rs:=[6]) (by kernel_rfl) (by simp) ?_
 refine AllReadyH.cons rfl (fun K5 hK5=>?_) AllReadyH.nil
 refine step_appM (w:=w6) rfl (.tmp 58) (.tmp 61) 24 24 rfl v5 v6 (by simp [Act.eval,Act.put]) (by simp [Act.eval,Act.put]) (fun ty=>app_m _ 24 24 5 ty i0 Tryz.underlying24 HI.out.1 HI.out.2.1 HI.out.2.2.1 HI.out.2.2.2 HO5b.out (src_bytes (N:=maxLen) Tryz.underlying24 (HO6.out.slice (by unfold maxLen;omega))) HBE.out HB6.out.size) ?_
 intro v7 w7 ho hg
 have HO7:=Lib.hid ho
 have HB7:=Lib.hid (OwnM.grown HB6.out hg HO5b.out HB6.out.size (Nat.le_refl _))
 clear ho hg
 refine hK5.out _ _ ((HE2.out.below HB7.out).data) (fun hHeld=>?_)
 clear hK5 K5
 try simp only [List.getElem_toArray,List.getElem_cons_succ,List.getElem_cons_zero,Act.put,List.setIfInBounds_toArray,List.set_cons_zero,List.set_cons_succ]
 refine wpAnyH_take (i:=7) (v:=_) rfl (by kernel_rfl) (by kernel_rfl) (by kernel_rfl) (fun _ _ _ h=>h) (Or.inl ⟨by rfl,fun w5 hSw=>(by (try dsimp only at hSw);go_simp;try with_reducible rfl)⟩) hHeld ?_
 try simp only [List.getElem_toArray,List.getElem_cons_succ,List.getElem_cons_zero,Act.put,List.setIfInBounds_toArray,List.set_cons_zero,List.set_cons_succ]
 refine wpAnyH_take (i:=8) (v:=_) rfl (by kernel_rfl) (by kernel_rfl) (by kernel_rfl) (fun _ _ _ h=>h) (Or.inl ⟨by rfl,fun w5 hSw=>(by (try dsimp only at hSw);go_simp;try with_reducible rfl)⟩) hHeld ?_
 try simp only [List.getElem_toArray,List.getElem_cons_succ,List.getElem_cons_zero,Act.put,List.setIfInBounds_toArray,List.set_cons_zero,List.set_cons_succ]
 refine wpAnyH_done (by kernel_rfl) ?_ _
 refine NoPanic.normal ?_
 go_wp2
 go_ret2
 exact ⟨_,rfl,by rw [HF3.out _ rfl];exact HO7.out.mono HB2.out.size,HB2.out.trans (HB7.out.mono HB2.out.size)⟩
set_option maxRecDepth 100000 in
set_option maxHeartbeats 1000000 in
theorem MemW_any (x : Ent) (w : World) (hM : MaxOk w) (hx : x.Ok maxLen w) (hT : Pow10 w) :
 Calls Tryz.prog 11 #[x.val] w (RetM 5 w (memBytes x)):=by
 by_cases hE:entFault x=0
 ·rw [memBytes_ok hE]
  exact MemW_ok x w hM hx hE hT
 ·rw [memBytes_bad hE]
  have HBX:=Lib.hid ((Below.refl w.heap.size w).alloc (Nat.le_refl _) (.cells #[.string x.path,.int .i64 x.kind,.string x.target,.int .i64 x.mt.mode,.int .i64 x.mt.uid,.int .i64 x.mt.gid,.string x.mt.user,.string x.mt.group,.int .i64 x.mt.second,.int .i64 x.mt.nano,.slice x.da x.data.length x.dcap] 26))
  have HPR:=Lib.hid (fun W hb=>PlanRight_any x W (hM.below (w':=W) hb) hx.path hx.target hx.mt (by obtain ⟨_,_,_,_,_,h,_⟩:=hx.data;exact h) hx.kind (Nat.le_refl _))
  generalize entFault x=q at *
  have hq:(q != 0)=true:=by rw [bne_iff_ne];exact hE
  clear hM hx hE hT
  go_enter Tryz.func11,Tryz.ntmps11
  go_wp2_with fail
  refine (HPR.out _ HBX.out).mono ?_
  rintro e w1 ⟨rfl,hb⟩
  have HB1:=Lib.hid (HBX.out.trans (hb.mono HBX.out.size))
  clear hb
  go_wp2
  go_ret2
  exact ⟨_,rfl,OwnM.nil _ _ _,HB1.out⟩
end Go.Proofs.YtaffgndickdbiaaGreatDoor
namespace Go.Creel
open Go.RowKit
theorem fieldOf_le (s : ByteArray) (b : Bool) : (fieldOf s b).1.size ≤ s.size := by
 unfold fieldOf
 split
 ·simp
 ·split
  ·simp
  ·simp only [ByteArray.size_extract];omega
theorem octOf_i64 (s : ByteArray) : i64 (octOf s).1 := by
 have:=octOf_rng s
 unfold i64
 omega
set_option maxRecDepth 100000 in
theorem headOf_small (s : ByteArray) (hs : s.size ≤ 512) : (headOf s).1.Ok 512 := by
 rcases headOf_cases s with e|e<;>rw [e]
 ·constructor<;>simp [headNone,i64]
 ·have hx:∀ (i j:Nat) (b:Bool),(fieldOf (s.extract i j) b).1.size<=512:=fun i j b=>by
   have h1:=fieldOf_le (s.extract i j) b
   have h2:(s.extract i j).size<=s.size:=by rw [ByteArray.size_extract];omega
   omega
  constructor<;>simp only [headFields]<;>first|exact hx _ _ _|exact octOf_i64 _
theorem blockHead_ok (b : List UInt8) : (blockOf b).1.Ok maxLen := by
 have h0:HeadN.Ok 512 headNone:=by constructor<;>simp [headNone,i64]
 have h:(blockOf b).1.Ok 512:=by
  by_cases h1:b.length<512
  ·rw [blockOf_short h1];exact h0
  ·by_cases h2:(head512 b).2=0
   ·rw [blockOf_cut h1 h2]
    exact headOf_small _ (by rw [ofL_size,List.length_take];omega)
   ·rw [blockOf_head h1 h2];exact h0
 have hm:512<=maxLen:=by unfold maxLen;decide
 exact ⟨Nat.le_trans h.nm hm,Nat.le_trans h.px hm,Nat.le_trans h.lk hm,h.mode,h.uid,h.gid,h.size,h.time,Nat.le_trans h.user hm,Nat.le_trans h.group hm⟩
theorem atoiV_i64 (s : ByteArray) : i64 (atoiV s) := by
 unfold atoiV
 generalize s.data.toList=l
 cases h:Lib.atoiAll l with
 | range =>
   simp only
   unfold Lib.atoiSat
   split<;>simp [i64]
 | ok v =>
   simp only
   unfold Lib.atoiAll at h
   cases l with
   | nil=>cases h
   | cons c r =>
     simp only at h
     split at h
     ·cases h
     ·cases h
     ·rename_i u hu
      split at h
      ·cases h
      ·split at h
       ·cases h
       ·rename_i a1 a2
        injection h with h
        unfold i64
        by_cases hn:c.toNat=45
        ·rw [if_pos hn] at h
         have:¬ 9223372036854775808<u:=fun e=>a2 ⟨hn,e⟩
         omega
        ·rw [if_neg hn] at h
         have:¬ 9223372036854775808<=u:=fun e=>a1 ⟨hn,e⟩
         omega
 | _=>simp [i64]
theorem numOf_i64 (l : List Rec) (key : ByteArray) {n : Int} (hn : i64 n) : i64 (numOf l key n) := by
 unfold numOf
 split
 ·exact atoiV_i64 _
 ·exact hn
theorem timeAns_rng (l : List UInt8) (r : Raw) : i64 (timeAns l r).1 ∧ i64 (timeAns l r).2.1 := by
 unfold timeAns
 split
 ·rename_i h
  have hf:timeFault (fixS r.below r.second r.nano) (fixN r.below r.nano)=0:=by
   have h2:=h.2
   unfold timeText at h2
   by_cases e:timeFault (fixS r.below r.second r.nano) (fixN r.below r.nano)=0
   ·exact e
   ·rw [if_pos e] at h2
    exact (congrArg Prod.snd h2)
  have:=timeFault_ok hf
  unfold i64
  simp only
  omega
 ·simp [i64]
theorem timeR_rng (l : List Rec) {t : Int} (ht : i64 t) : i64 (timeR l t).1 ∧ i64 (timeR l t).2 := by
 unfold timeR
 split
 ·exact timeAns_rng _ _
 ·exact ⟨ht,by simp [i64]⟩
theorem cutOne_small (p n : ByteArray) : (cutOne p n).1.size ≤ 256 := by
 unfold cutOne
 split
 ·simp
 ·rename_i h
  split
  ·simp only
   unfold joinS
   split
   ·omega
   ·simp only [ByteArray.size_append,ofL_size,List.length_cons,List.length_nil];omega
  ·simp
theorem textOf_le {l : List Rec} {key s : ByteArray} {N : Nat} (hl : ∀ r ∈ l,r.key.size ≤ N ∧ r.value.size ≤ N) (hs : s.size ≤ N) : (textOf l key s).size ≤ N := by
 unfold textOf
 split
 ·exact recFind_small key hl
 ·exact hs
theorem kindOfT_rng (c : UInt8) : 0 ≤ kindOfT c ∧ kindOfT c ≤ 4 := by
 unfold kindOfT
 split
 ·omega
 ·split
  ·omega
  ·split
   ·omega
   ·split<;>omega
theorem unpack_ok {h : HeadN} {l : List Rec} {da : Option Addr} {dcap : Nat} {d : List UInt8} {w : World} (hok : h.Ok maxLen) (hl : ∀ r ∈ l,r.key.size ≤ maxLen ∧ r.value.size ≤ maxLen) (hd : SliceC maxLen 1 ByteC w [.slice da d.length dcap] d) :
 (unpackOf h l da dcap d).Ok maxLen w:=by
 have hk:=kindOfT_rng h.typ
 have hc:=cutOne_small h.px h.nm
 have hm:256<=maxLen:=by unfold maxLen;decide
 have ht:=timeR_rng l hok.time
 exact ⟨textOf_le hl (by omega),(by unfold unpackOf i64;simp only;omega),textOf_le hl hok.lk,⟨hok.mode,numOf_i64 _ _ hok.uid,numOf_i64 _ _ hok.gid,textOf_le hl hok.user,textOf_le hl hok.group,ht.1,ht.2⟩,hd⟩
theorem paxOf_rec {s : ByteArray} (h : (paxOf s).2 = 0) : ∀ r ∈ (paxOf s).1,r.key.size ≤ 60 ∧ r.value.size ≤ 500 := by
 have hp:paxFault (paxOf s).1=0:=by
  unfold paxOf at h ⊢
  split at h
  ·rename_i h1
   rw [if_pos h1];rfl
  ·rename_i h1
   split at h
   ·rename_i h2
    rw [if_neg h1,if_pos h2];rfl
   ·rename_i h2
    rw [if_neg h1,if_neg h2]
    exact Classical.not_not.1 h2
 intro r hr
 have:=recFault_ok (pax_all hp r hr)
 exact ⟨this.2.1,this.2.2.1⟩
theorem bl_irrefl : ∀ x : List UInt8,Op.bytesLess x x = false
 | []=>rfl
 | a::x=>by
   have ih:=bl_irrefl x
   unfold Op.bytesLess
   simp [ih]
theorem bl_trans (x y z : List UInt8) (h1 : Op.bytesLess x y = true) (h2 : Op.bytesLess y z = true) : Op.bytesLess x z = true := by
 have e1:=Go.Proofs.bytesLess_eq x y
 have e2:=Go.Proofs.bytesLess_eq y z
 have e3:=Go.Proofs.bytesLess_eq x z
 rw [h1] at e1
 rw [h2] at e2
 rw [e3,decide_eq_true_iff]
 exact List.lt_trans (of_decide_eq_true e1.symm) (of_decide_eq_true e2.symm)
theorem bl_tri (x y : List UInt8) (h1 : Op.bytesLess x y = false) (h2 : x ≠ y) : Op.bytesLess y x = true := by
 have e1:=Go.Proofs.bytesLess_eq x y
 have e3:=Go.Proofs.bytesLess_eq y x
 rw [h1] at e1
 have h3:¬ x<y:=of_decide_eq_false e1.symm
 have h4:y<=x:=List.not_lt.1 h3
 rw [e3,decide_eq_true_iff]
 rcases Classical.em (y<x) with h|h
 ·exact h
 ·exact absurd (List.le_antisymm (List.not_lt.1 h) h4) h2
theorem paxOf_len {s : ByteArray} (h : (paxOf s).2 = 0) : (paxOf s).1.length ≤ 12 := by
 unfold paxOf at h ⊢
 split at h
 ·rename_i h1
  rw [if_pos h1];simp
 ·rename_i h1
  split at h
  ·rename_i h2
   rw [if_neg h1,if_pos h2];simp
  ·rename_i h2
   rw [if_neg h1,if_neg h2]
   exact (paxFault_all (Classical.not_not.1 h2)).1
theorem paxOf_keys {s : ByteArray} (h : (paxOf s).2 = 0) : ((paxOf s).1.map (·.key)).Nodup := by
 have hp:paxFault (paxOf s).1=0:=by
  unfold paxOf at h ⊢
  split at h
  ·rename_i h1
   rw [if_pos h1];rfl
  ·rename_i h1
   split at h
   ·rename_i h2
    rw [if_neg h1,if_pos h2];rfl
   ·rename_i h2
    rw [if_neg h1,if_neg h2]
    exact Classical.not_not.1 h2
 generalize (paxOf s).1=l at *
 have hs:=(paxFault_all hp).2
 have hlt:∀ k,k+1<l.length->Op.bytesLess (rk l k).key.toList (rk l (k+1)).key.toList=true:=by
  intro k hk
  have h1:=hs (k+1) hk
  unfold stepP at h1
  split at h1
  ·rename_i h2;exact absurd h1 h2
  ·split at h1
   ·cases h1
   ·rename_i h2
    have h3:leS (rk l (k+1)).key (rk l k).key=false:=by
     cases e:leS (rk l (k+1)).key (rk l k).key with
     | false=>rfl
     | true=>exact absurd ⟨by omega,by simpa using e⟩ h2
    unfold leS at h3
    rw [Bool.or_eq_false_iff] at h3
    exact bl_tri _ _ h3.1 (by simpa using h3.2)
 have hall:∀ n k,k+n+1<l.length->Op.bytesLess (rk l k).key.toList (rk l (k+n+1)).key.toList=true:=by
  intro n
  induction n with
  | zero=>intro k hk;exact hlt k hk
  | succ n ih =>
    intro k hk
    exact bl_trans _ _ _ (ih k (by omega)) (hlt (k+n+1) (by omega))
 unfold List.Nodup
 rw [List.pairwise_iff_getElem]
 intro i j hi hj hij he
 rw [List.length_map] at hi hj
 have h1:=hall (j-i-1) i (by omega)
 rw [show i+(j-i-1)+1=j by omega] at h1
 have h2:(rk l i).key=(rk l j).key:=by
  simp only [List.getElem_map] at he
  rw [rk_eq hi,rk_eq hj]
  exact he
 rw [h2,bl_irrefl] at h1
 cases h1
def hasN (s : ByteArray) : Nat := if hasB s 0 = true then 1 else 0
def nodFaultN (p m kind same : Int) (dl ts h : Nat) : Int :=
 if ¬ p=0 then p else if ¬ m=0 then m
 else if kind=1 then (if ¬ ts=0\/same<0 then 3 else if 2000<dl then 1 else 0)
 else if kind=2\/kind=3 then (if 0<dl\/¬ same=0\/(kind=2/\¬ ts=0)\/(kind=3/\(ts=0\/h=1)) then 3 else if 400<ts then 1 else 0)
 else 2
def nodFault (e : Nod) : Int := nodFaultN (pathFault e.path) (metaFault e.mt) e.kind e.same e.data.length e.target.size (hasN e.target)
abbrev Nod.val (e : Nod) : Value := .agg #[.string e.path,.int .i64 e.kind,.int .i64 e.same,.string e.target,.int .i64 e.mt.mode,.int .i64 e.mt.uid,.int .i64 e.mt.gid,.string e.mt.user,.string e.mt.group,.int .i64 e.mt.second,.int .i64 e.mt.nano,.slice e.da e.data.length e.dcap]
open Go.RowKit
def nodZ : Nod := ⟨.empty,0,0,.empty,⟨0,0,0,.empty,.empty,0,0⟩,none,0,[]⟩
def nk (l : List Nod) (k : Nat) : Nod := l.getD k nodZ
theorem nk_eq {l : List Nod} {k : Nat} (h : k < l.length) : nk l k = l[k] := by simp [nk,List.getD_eq_getElem?_getD,List.getElem?_eq_getElem h]
theorem nk_take {l : List Nod} {i j : Nat} (h : j < i) : nk (l.take i) j = nk l j := by
 simp [nk,List.getD_eq_getElem?_getD,h]
def NodAt (w : World) (b o : Nat) (x : Nod) : Prop := w.cell? ⟨b,o,none⟩ = some (.string x.path) ∧ w.cell? ⟨b,o + 1,none⟩ = some (.int .i64 x.kind) ∧ w.cell? ⟨b,o + 2,none⟩ = some (.int .i64 x.same) ∧ w.cell? ⟨b,o + 3,none⟩ = some (.string x.target) ∧ w.cell? ⟨b,o + 4,none⟩ = some (.int .i64 x.mt.mode) ∧ w.cell? ⟨b,o + 5,none⟩ = some (.int .i64 x.mt.uid) ∧ w.cell? ⟨b,o + 6,none⟩ = some (.int .i64 x.mt.gid) ∧ w.cell? ⟨b,o + 7,none⟩ = some (.string x.mt.user) ∧ w.cell? ⟨b,o + 8,none⟩ = some (.string x.mt.group) ∧ w.cell? ⟨b,o + 9,none⟩ = some (.int .i64 x.mt.second) ∧ w.cell? ⟨b,o + 10,none⟩ = some (.int .i64 x.mt.nano) ∧ w.cell? ⟨b,o + 11,none⟩ = some (.slice x.da x.data.length x.dcap)
def NodsAt (w : World) (b off : Nat) (l : List Nod) : Prop := ∀ i,i < l.length → NodAt w b (off + i * 12) (nk l i)
theorem NodAt.lt {w : World} {b o : Nat} {x : Nod} (h : NodAt w b o x) : b < w.heap.size := World.block_lt_of_cell? w _ h.1
theorem NodAt.below {w w' : World} {b o : Nat} {x : Nod} (h : NodAt w b o x) (hb : Below w.heap.size w w') : NodAt w' b o x := by
 have hlt:=h.lt
 obtain ⟨h0,h1,h2,h3,h4,h5,h6,h7,h8,h9,h10,h11⟩:=h
 exact ⟨(hb.cell (p:=⟨b,o,none⟩) hlt).trans h0,(hb.cell (p:=⟨b,o+1,none⟩) hlt).trans h1,(hb.cell (p:=⟨b,o+2,none⟩) hlt).trans h2,(hb.cell (p:=⟨b,o+3,none⟩) hlt).trans h3,(hb.cell (p:=⟨b,o+4,none⟩) hlt).trans h4,(hb.cell (p:=⟨b,o+5,none⟩) hlt).trans h5,(hb.cell (p:=⟨b,o+6,none⟩) hlt).trans h6,(hb.cell (p:=⟨b,o+7,none⟩) hlt).trans h7,(hb.cell (p:=⟨b,o+8,none⟩) hlt).trans h8,(hb.cell (p:=⟨b,o+9,none⟩) hlt).trans h9,(hb.cell (p:=⟨b,o+10,none⟩) hlt).trans h10,(hb.cell (p:=⟨b,o+11,none⟩) hlt).trans h11⟩
theorem NodsAt.below {w w' : World} {b off : Nat} {l : List Nod} (h : NodsAt w b off l) (hb : Below w.heap.size w w') : NodsAt w' b off l := fun i hi => (h i hi).below hb
theorem NodsAt.take {w : World} {b off : Nat} {l : List Nod} (h : NodsAt w b off l) (i : Nat) : NodsAt w b off (l.take i) := by
 intro j hj
 have hj':j<i/\j<l.length:=by simp at hj;omega
 rw [nk_take hj'.1]
 exact h j hj'.2
theorem Nod.Ok.below {N : Nat} {w w' : World} {x : Nod} (h : x.Ok N w) (hb : Below w.heap.size w w') : x.Ok N w' := ⟨h.path,h.kind,h.same,h.target,h.mt,h.data.below (fun _ _ h => h) hb⟩
theorem nods_cases {N : Nat} {w : World} {v : Value} {l : List Nod} (h : SliceC N 12 (NodC N) w [v] l) : (∃ a cap,v = .slice a 0 cap ∧ l = [] ∧ cap ≤ maxLen ∧ (a = none → cap = 0)) ∨
 ∃ b off cap,v = .slice (some ⟨b,off,none⟩) l.length cap/\0<l.length/\l.length<=cap/\cap<=maxLen/\l.length<=N/\NodsAt w b off l/\∀ i,i<l.length->(nk l i).Ok N w:=by
 obtain ⟨a,cap,hv,h1,h2,h3,h5,h4⟩:=h
 simp only [List.cons.injEq,and_true] at hv
 by_cases hl:0<l.length
 ·obtain ⟨b,off,rfl,hc⟩:=h4 hl
  refine .inr ⟨b,off,cap,hv,hl,h1,h2,h3,fun i hi=>?_,fun i hi=>?_⟩
  ·obtain ⟨c,_,hcc,hE,hn⟩:=hc i hi
   rw [nk_eq hi]
   subst hE
   refine ⟨?_,?_,?_,?_,?_,?_,?_,?_,?_,?_,?_,?_⟩
   ·exact hcc 0 (by omega)
   ·exact hcc 1 (by omega)
   ·exact hcc 2 (by omega)
   ·exact hcc 3 (by omega)
   ·exact hcc 4 (by omega)
   ·exact hcc 5 (by omega)
   ·exact hcc 6 (by omega)
   ·exact hcc 7 (by omega)
   ·exact hcc 8 (by omega)
   ·exact hcc 9 (by omega)
   ·exact hcc 10 (by omega)
   ·exact hcc 11 (by omega)
  ·obtain ⟨c,_,hcc,hE,hn⟩:=hc i hi
   rw [nk_eq hi]
   exact hn
 ·have:l=[]:=by
   cases l with
   | nil=>rfl
   | cons x r=>simp at hl
  subst this
  exact .inl ⟨a,cap,by simpa using hv,rfl,h2,h5⟩
def treeFind : List Nod → ByteArray → Nat
 | [],_=>0
 | x::t,s=>if x.path=s then 0 else treeFind t s+1
theorem treeFind_le : ∀ (l : List Nod) (s : ByteArray),treeFind l s ≤ l.length
 | [],_=>Nat.le_refl _
 | x::t,s=>by
   have:=treeFind_le t s
   unfold treeFind
   split<;>simp<;>omega
theorem treeFind_at : ∀ {l : List Nod} {s : ByteArray} {k : Nat},k < l.length → (∀ j,j < k → (nk l j).path ≠ s) → (nk l k).path = s → treeFind l s = k
 | [],_,_,h,_,_=>absurd h (by simp)
 | x::t,s,0,_,_,he=>by unfold treeFind;exact if_pos he
 | x::t,s,k+1,h,hn,he=>by
   unfold treeFind
   rw [if_neg (show x.path≠s from hn 0 (by omega)),treeFind_at (k:=k) (by simpa using h) (fun j hj=>hn (j+1) (by omega)) he]
theorem treeFind_no : ∀ {l : List Nod} {s : ByteArray},(∀ j,j < l.length → (nk l j).path ≠ s) → treeFind l s = l.length
 | [],_,_=>rfl
 | x::t,s,hn=>by
   unfold treeFind
   rw [if_neg (show x.path≠s from hn 0 (by simp)),treeFind_no (fun j hj=>hn (j+1) (by simpa using hj))]
   rfl
end Go.Creel
namespace Go.Proofs.YtaffgndickdbiaaGreatDoor
open Go.Creel Go.RowKit Go.ChangeShapes
set_option maxRecDepth 100000 in
theorem TreeFind_at (b off cap : Nat) (l : List Nod) (s : ByteArray) (w : World) (hle : l.length ≤ cap) (hm : cap ≤ maxLen) (hc : NodsAt w b off l) :
 Calls Tryz.prog 71 #[.slice (some ⟨b,off,none⟩) l.length cap,.string s] w fun e w'=>e = .returned (.int .i64 (treeFind l s))/\w=w':=by
 unfold maxLen at hm
 have HC:=Lib.hid hc
 clear hc
 go_enter Tryz.func71,Tryz.ntmps71
 go_wp2
 go_loop [5] (fun i=>∃ k:Nat,k<=l.length/\i = .int .i64 k/\Hid (∀ j,j<k->(nk l j).path≠s)) (fun i=>l.length-(intOf i).toNat)
 case atStart=>exact ⟨0,by omega,rfl,Lib.hid fun j hj=>absurd hj (by omega)⟩
 case round =>
  obtain ⟨k,hk,rfl,HD⟩:=hrel
  by_cases hlt:k<l.length
  ·obtain ⟨h0,_⟩:=HC.out k hlt
   by_cases he:(nk l k).path=s
   ·have hb:=seq_t he
    have HF:=Lib.hid (treeFind_at hlt HD.out he)
    clear he
    go_wp2
    go_ret
    exact ⟨ret_i (by rw [HF.out]),rfl⟩
   ·have hb:=seq_f he
    have HE:=Lib.hid he
    clear he
    go_wp2
    go_round
    case rel=>exact ⟨k+1,by omega,by go_num,Lib.hid fun j hj=>by
     by_cases e:j=k
     ·rw [e];exact HE.out
     ·exact HD.out j (by omega)⟩
    case measure=>simp [intOf];omega
  ·obtain rfl:k=l.length:=by omega
   have HF:=Lib.hid (treeFind_no HD.out)
   go_wp2
   go_ret
   exact ⟨ret_i (by rw [HF.out]),rfl⟩
set_option maxRecDepth 100000 in
theorem TreeFind_nil (a : Option Addr) (cap : Nat) (s : ByteArray) (w : World) :
 Calls Tryz.prog 71 #[.slice a 0 cap,.string s] w fun e w'=>e = .returned (.int .i64 0)/\w=w':=by
 go_enter Tryz.func71,Tryz.ntmps71
 go_wp2
 go_loop [5] (fun i=>i = .int .i64 0) (fun i=>0)
 case atStart=>rfl
 case round =>
  obtain rfl:=hrel
  go_wp2
  go_ret
  exact ⟨rfl,rfl⟩
set_option maxRecDepth 100000 in
theorem Find1_any (x : Nod) (pb : Nat) (s : ByteArray) (w : World) (hc : w.cell? ⟨pb,0,none⟩ = some (.string s)) (hlt : pb < w.heap.size) :
 Calls Tryz.prog 132 #[x.val,.pointer (some ⟨pb,0,none⟩)] w fun e w'=>e = .returned (.bool (x.path.toList==s.toList))/\Below w.heap.size w w':=by
 have HB:=Lib.hid fun o:Obj=>(Below.refl w.heap.size w).alloc (Nat.le_refl _) o
 go_enter Tryz.func132,Tryz.ntmps132
 go_wp2
 go_ret
 exact ⟨rfl,HB.out _⟩
def idxOf (n len : Nat) : Int := if n < len then n else -1
set_option maxRecDepth 100000 in
set_option maxHeartbeats 1000000 in
theorem IndexFunc_at (b off cap : Nat) (l : List Nod) (pb : Nat) (s : ByteArray) (w : World) (hle : l.length ≤ cap) (hm : cap ≤ maxLen) (hc : NodsAt w b off l) (hp : w.cell? ⟨pb,0,none⟩ = some (.string s)) (hlt : pb < w.heap.size) :
 Calls Tryz.prog 131 #[.slice (some ⟨b,off,none⟩) l.length cap,.func (.func 132) #[] #[.pointer (some ⟨pb,0,none⟩)]] w fun e w'=>e = .returned (.int .i64 (idxOf (treeFind l s) l.length))/\Below w.heap.size w w':=by
 unfold maxLen at hm
 have HC:=Lib.hid hc
 have HP:=Lib.hid hp
 have HPL:=Lib.hid hlt
 clear hc hp hlt
 go_enter Tryz.func131,Tryz.ntmps131
 go_wp2
 go_loopw [5,8] (fun _ i wr=>∃ k:Nat,k<=l.length/\i = .int .i64 k/\Hid (∀ j,j<k->(nk l j).path≠s)/\Hid (Below w.heap.size w wr)) (fun _ i _=>l.length-(intOf i).toNat)
 case atStart=>exact ⟨0,by omega,rfl,Lib.hid fun j hj=>absurd hj (by omega),Lib.hid (Below.refl _ _)⟩
 case round =>
  obtain ⟨k,hk,rfl,HD,HB⟩:=hrel
  by_cases hlt:k<l.length
  ·obtain ⟨h0,h1,h2,h3,h4,h5,h6,h7,h8,h9,h10,h11⟩:=(HC.out.below HB.out) k hlt
   have HFC:=Lib.hid (Find1_any (nk l k) pb s wr ((HB.out.cell (p:=⟨pb,0,none⟩) HPL.out).trans HP.out) (Nat.lt_of_lt_of_le HPL.out HB.out.size))
   have HAT:=Lib.hid (fun e:(nk l k).path=s=>treeFind_at hlt HD.out e)
   generalize hx:nk l k=x at HFC HAT h0 h1 h2 h3 h4 h5 h6 h7 h8 h9 h10 h11
   have HNE:=Lib.hid (fun (h:x.path≠s)=>show (nk l k).path≠s by rw [hx];exact h)
   clear hx
   by_cases he:x.path=s
   ·have hb:=seq_t he
    have HF:=Lib.hid (show idxOf (treeFind l s) l.length=k by rw [HAT.out he];unfold idxOf;rw [if_pos hlt])
    clear he
    go_wp2_with (go_at_call 132;refine HFC.out.mono ?_;rintro e w' ⟨rfl,hb2⟩;have HB2:=Lib.hid (HB.out.trans (hb2.mono HB.out.size));clear hb2)
    go_ret
    exact ⟨ret_i HF.out,HB2.out⟩
   ·have hb:=seq_f he
    have HE:=Lib.hid he
    clear he
    go_wp2_with (go_at_call 132;refine HFC.out.mono ?_;rintro e w' ⟨rfl,hb2⟩;have HB2:=Lib.hid (HB.out.trans (hb2.mono HB.out.size));clear hb2)
    go_roundw
    case rel=>exact ⟨k+1,by omega,by go_num,Lib.hid fun j hj=>by
     by_cases e:j=k
     ·rw [e];exact HNE.out HE.out
     ·exact HD.out j (by omega),HB2⟩
    case measure=>simp [intOf];omega
  ·obtain rfl:k=l.length:=by omega
   have HF:=Lib.hid (show idxOf (treeFind l s) l.length = -1 by rw [treeFind_no HD.out];unfold idxOf;rw [if_neg (by omega)])
   go_wp2
   go_ret
   exact ⟨ret_i HF.out,HB.out⟩
set_option maxRecDepth 100000 in
theorem IndexFunc_nil (a : Option Addr) (cap : Nat) (f : Value) (w : World) :
 Calls Tryz.prog 131 #[.slice a 0 cap,f] w fun e w'=>e = .returned (.int .i64 (-1))/\w=w':=by
 go_enter Tryz.func131,Tryz.ntmps131
 go_wp2
 go_loop [5,8] (fun _ i=>i = .int .i64 0) (fun _ i=>0)
 case atStart=>rfl
 case round =>
  obtain rfl:=hrel
  go_wp2
  go_ret
  exact ⟨rfl,rfl⟩
def findIE (n len : Nat) : Int × Int := if n < len then (n,0) else (0,5)
set_option maxRecDepth 100000 in
theorem Find_at (b off cap : Nat) (l : List Nod) (s : ByteArray) (w : World) (hle : l.length ≤ cap) (hm : cap ≤ maxLen) (hc : NodsAt w b off l) :
 Calls Tryz.prog 68 #[.slice (some ⟨b,off,none⟩) l.length cap,.string s] w fun e w'=>e = .returned (.tuple #[.int .i64 (findIE (treeFind l s) l.length).1,.int .i64 (findIE (treeFind l s) l.length).2])/\Below w.heap.size w w':=by
 have hb1:=(Below.refl w.heap.size w).alloc (Nat.le_refl _) (.cells #[.string s] 9)
 have HI:=Lib.hid (IndexFunc_at b off cap l w.heap.size s (w.alloc (.cells #[.string s] 9)) hle hm (hc.below hb1) (by simp [World.cell?_alloc_new]) (by simp))
 have HB1:=Lib.hid hb1
 clear hc hb1
 unfold maxLen at hm
 by_cases h:treeFind l s<l.length
 ·have HF:=Lib.hid (show findIE (treeFind l s) l.length=(((treeFind l s:Nat):Int),0) by unfold findIE;rw [if_pos h])
  have HX:=Lib.hid (show idxOf (treeFind l s) l.length=treeFind l s by unfold idxOf;rw [if_pos h])
  generalize treeFind l s=n at *
  clear h
  go_enter Tryz.func68,Tryz.ntmps68
  go_wp2_with (go_at_call 131;refine HI.out.mono ?_;rintro e w' ⟨rfl,hb2⟩;rw [HX.out];have HB2:=Lib.hid (HB1.out.trans (hb2.mono HB1.out.size));clear hb2)
  go_ret2
  exact ⟨ret_ii HF.out,HB2.out⟩
 ·have HF:=Lib.hid (show findIE (treeFind l s) l.length=(0,5) by unfold findIE;rw [if_neg h])
  have HX:=Lib.hid (show idxOf (treeFind l s) l.length = -1 by unfold idxOf;rw [if_neg h])
  generalize treeFind l s=n at *
  clear h
  go_enter Tryz.func68,Tryz.ntmps68
  go_wp2_with (go_at_call 131;refine HI.out.mono ?_;rintro e w' ⟨rfl,hb2⟩;rw [HX.out];have HB2:=Lib.hid (HB1.out.trans (hb2.mono HB1.out.size));clear hb2)
  go_ret2
  exact ⟨ret_ii HF.out,HB2.out⟩
set_option maxRecDepth 100000 in
theorem Find_nil (a : Option Addr) (cap : Nat) (s : ByteArray) (w : World) :
 Calls Tryz.prog 68 #[.slice a 0 cap,.string s] w fun e w'=>e = .returned (.tuple #[.int .i64 0,.int .i64 5])/\Below w.heap.size w w':=by
 have HB1:=Lib.hid ((Below.refl w.heap.size w).alloc (Nat.le_refl _) (.cells #[.string s] 9))
 go_enter Tryz.func68,Tryz.ntmps68
 go_wp2_with (go_at_call 131;refine (IndexFunc_nil _ _ _ _).mono ?_;rintro e w' ⟨rfl,rfl⟩)
 go_ret2
 exact ⟨rfl,HB1.out⟩
end Go.Proofs.YtaffgndickdbiaaGreatDoor
