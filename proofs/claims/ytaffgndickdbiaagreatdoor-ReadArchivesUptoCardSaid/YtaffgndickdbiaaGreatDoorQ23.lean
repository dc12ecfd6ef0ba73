/-
  Texts: RecRd.
-/
import Derived.Test.YtaffgndickdbiaaGreatDoorQ11
import Derived.Shelf.Strings.SlTrimAscii
import Derived.Lib.AtoiErrMem
set_option linter.unusedVariables false
set_option linter.unusedSimpArgs false
set_option linter.unusedSectionVars false
namespace Go.Proofs.YtaffgndickdbiaaGreatDoor
open Go.Creel Go.RowKit
theorem TrimDigs_any (s : ByteArray) (w : World) (hs : s.size ≤ maxLen) :
 Calls Tryz.prog 130 #[.string s,.string ⟨#[48,49,50,51,52,53,54,55,56,57]⟩] w fun e w'=>e = .returned (.string (ofL (Lib.trimS s.data.toList recDigs)))/\Below w.heap.size w w' :=
 (Any.strings_Trim_laid Tryz.lays160 (by kernel_rfl) s ⟨#[48,49,50,51,52,53,54,55,56,57]⟩ w (by unfold maxLen at hs;omega) (by decide) (ascii_of_all (by decide))).mono fun e w' ⟨he,hb⟩=>⟨he,hb⟩
theorem AtoiNum_any (s : ByteArray) (k : Nat) (w : World) (h1 : 1 ≤ k) (h4 : k ≤ 4) (hk : k ≤ s.size) (hn : IsNum s k) :
 Calls Tryz.prog 57 #[.string (s.extract 0 k)] w fun e w'=>e = .returned (.tuple #[.int .i64 (valN s k:Int),.nilIface])/\Below w.heap.size w w' :=
 (Tryz.strconv_Atoi (s.extract 0 k) (valN s k) (by simp;omega) (atoi_num h1 hk hn) w).mono (by
   rintro e w' ⟨he,t,rfl⟩
   exact ⟨he,Lib.bytesWorld_below _ _ _⟩)
set_option maxRecDepth 100000 in
theorem RNoL_any (e : Int) (w : World) :
 Calls Tryz.prog 172 #[.int .i64 e] w fun x w'=>x = .returned (.tuple #[.agg #[.string ⟨#[]⟩,.string ⟨#[]⟩],.string ⟨#[]⟩,.int .i64 e])/\Below w.heap.size w w':=by
 go_enter Tryz.func172,Tryz.ntmps172
 go_wp2
 (try simp only [Exit.inBlock,Exit.then])
 refine bodyPost_ret (v := .tuple #[.agg #[.string ⟨#[]⟩,.string ⟨#[]⟩],.string ⟨#[]⟩,.int .i64 e]) (by rw [results_rec3 rfl];go_simp) rfl ?_
 exact ⟨rfl,((Below.refl _ _).alloc (Nat.le_refl _) _)⟩
set_option maxRecDepth 100000 in
set_option maxHeartbeats 4000000 in
theorem RecRead_any (s : ByteArray) (w : World) (hs : s.size ≤ maxLen) (hT : Pow10 w) :
 Calls Tryz.prog 119 #[.string s] w fun e w'=>e = .returned (.tuple #[.agg (recOf s).1.cells,.string (recOf s).2.1,.int .i64 (recOf s).2.2])/\Below w.heap.size w w':=by
 have HT:=Lib.hid hT
 have hs':=hs
 have HSM:=Lib.hid hs
 unfold maxLen at hs
 clear hT
 have HA0:=Lib.hid ((Below.refl w.heap.size w).alloc (Nat.le_refl _) (.cells #[.string ⟨#[]⟩,.string ⟨#[]⟩] 85))
 have HRB:=Lib.hid (show RBox 85 w.heap.size ⟨#[]⟩ ⟨#[]⟩ (w.alloc (.cells #[.string ⟨#[]⟩,.string ⟨#[]⟩] 85)) from heap_alloc_new w _)
 go_enter Tryz.func119,Tryz.ntmps119
 go_wp2_with fail
 generalize hW0:w.alloc (.cells #[.string ⟨#[]⟩,.string ⟨#[]⟩] 85)=W0 at *
 clear hW0
 rcases idx_lt (s:=s) (c:=32) with hlt|⟨k,hi,hk,hbk,hno⟩
 ·have hi:firstIdx s 32 = -1:=idx_none (by cases h:hasB s 32 with|false=>rfl|true=>have:=idx_ge h;omega)
  have HF:=Lib.hid (recOf_head (s:=s) (by
   rintro ⟨k,_,_,h3,_,_,h6⟩
   have:hasB s 32=true:=hasB_true h3 (by rw [h6];rfl)
   have:=idx_ge this
   omega))
  refine (CutNo_any s 32 _ hi).mono ?_
  rintro e w2 ⟨rfl,n,rfl⟩
  have HW:=Lib.hid (below_drewN (Below.refl W0.heap.size W0) n)
  clear hlt hi
  go_wp2_with fail
  refine (RNoL_any 3 _).mono ?_
  rintro e w9 ⟨rfl,hb⟩
  have HW9:=Lib.hid (HW.out.trans (hb.mono HW.out.size))
  obtain ⟨c0,c1,f0,f1⟩:=(HRB.out.on HW9.out).facts
  clear hb
  go_wp2
  (try simp only [Exit.inBlock,Exit.then])
  refine bodyPost_ret (v := .tuple #[.agg #[.string ⟨#[]⟩,.string ⟨#[]⟩],.string ⟨#[]⟩,.int .i64 3]) (by rw [results_rec3 rfl];go_simp) rfl ?_
  rw [HF.out]
  exact ⟨rfl,((HA0.out.trans (HW9.out.mono HA0.out.size)).setCell (p:=⟨w.heap.size,0,none⟩) (Nat.le_refl _) _).setCell (p:=⟨w.heap.size,1,none⟩) (Nat.le_refl _) _⟩
 ·have hbk:byt s k=32:=hbk
  have HNO:=Lib.hid (show ∀ j,j<k->byt s j≠32 from hno)
  have hcs:(s.extract 0 k).size=k:=by simp;omega
  have HNX:=Lib.hid (fun (h:¬ RecHead s k)=>recOf_head (s:=s) (fun ⟨m,hm⟩=>h (by rw [<-head_at hbk HNO.out hm];exact hm)))
  refine (CutYes_any s 32 k _ hs' hi hk).mono ?_
  rintro e w2 ⟨rfl,n,rfl⟩
  have HW:=Lib.hid (below_drewN (Below.refl W0.heap.size W0) n)
  have HBK:=Lib.hid hbk
  clear hno hi hbk
  by_cases h1:k<1
  ·have HF:=Lib.hid (HNX.out (fun h=>by have:=h.1;omega))
   go_wp2_with fail
   refine (RNoL_any 3 _).mono ?_
   rintro e w9 ⟨rfl,hb⟩
   have HW9:=Lib.hid (HW.out.trans (hb.mono HW.out.size))
   obtain ⟨c0,c1,f0,f1⟩:=(HRB.out.on HW9.out).facts
   clear hb
   go_wp2
   (try simp only [Exit.inBlock,Exit.then])
   refine bodyPost_ret (v := .tuple #[.agg #[.string ⟨#[]⟩,.string ⟨#[]⟩],.string ⟨#[]⟩,.int .i64 3]) (by rw [results_rec3 rfl];go_simp) rfl ?_
   rw [HF.out]
   exact ⟨rfl,((HA0.out.trans (HW9.out.mono HA0.out.size)).setCell (p:=⟨w.heap.size,0,none⟩) (Nat.le_refl _) _).setCell (p:=⟨w.heap.size,1,none⟩) (Nat.le_refl _) _⟩
  ·by_cases h4:4<k
   ·have HF:=Lib.hid (HNX.out (fun h=>by have:=h.2.1;omega))
    go_wp2_with fail
    refine (RNoL_any 3 _).mono ?_
    rintro e w9 ⟨rfl,hb⟩
    have HW9:=Lib.hid (HW.out.trans (hb.mono HW.out.size))
    obtain ⟨c0,c1,f0,f1⟩:=(HRB.out.on HW9.out).facts
    clear hb
    go_wp2
    (try simp only [Exit.inBlock,Exit.then])
    refine bodyPost_ret (v := .tuple #[.agg #[.string ⟨#[]⟩,.string ⟨#[]⟩],.string ⟨#[]⟩,.int .i64 3]) (by rw [results_rec3 rfl];go_simp) rfl ?_
    rw [HF.out]
    exact ⟨rfl,((HA0.out.trans (HW9.out.mono HA0.out.size)).setCell (p:=⟨w.heap.size,0,none⟩) (Nat.le_refl _) _).setCell (p:=⟨w.heap.size,1,none⟩) (Nat.le_refl _) _⟩
   ·have hp0:0<(s.extract 0 k).size:=by omega
    have hb0:((s.extract 0 k)[0]'hp0).toNat=byt s 0:=by rw [byt_get,byt_part (by omega) (by omega)]
    by_cases h48:byt s 0=48
    ·have HF:=Lib.hid (HNX.out (fun h=>h.2.2.2.2.1 h48))
     rw [h48] at hb0
     go_wp2_with fail
     refine (RNoL_any 3 _).mono ?_
     rintro e w9 ⟨rfl,hb⟩
     have HW9:=Lib.hid (HW.out.trans (hb.mono HW.out.size))
     obtain ⟨c0,c1,f0,f1⟩:=(HRB.out.on HW9.out).facts
     clear hb
     go_wp2
     (try simp only [Exit.inBlock,Exit.then])
     refine bodyPost_ret (v := .tuple #[.agg #[.string ⟨#[]⟩,.string ⟨#[]⟩],.string ⟨#[]⟩,.int .i64 3]) (by rw [results_rec3 rfl];go_simp) rfl ?_
     rw [HF.out]
     exact ⟨rfl,((HA0.out.trans (HW9.out.mono HA0.out.size)).setCell (p:=⟨w.heap.size,0,none⟩) (Nat.le_refl _) _).setCell (p:=⟨w.heap.size,1,none⟩) (Nat.le_refl _) _⟩
    ·have h48':¬ ((s.extract 0 k)[0]'hp0).toNat=48:=by rw [hb0];exact h48
     have HTR:=Lib.hid (fun w=>TrimDigs_any (s.extract 0 k) w (by rw [hcs];have:=HSM.out;omega))
     have hti:=(trim_digs (s.extract 0 k).data.toList).trans (num_iff (s:=s) (k:=k) (by omega))
     have HTY:=Lib.hid (fun (h:IsNum s k)=>empty_t (a:=ofL (Lib.trimS (s.extract 0 k).data.toList recDigs)) (by rw [ofL_size,hti.2 h];rfl))
     have HTN:=Lib.hid (fun (h:¬ IsNum s k)=>empty_f (a:=ofL (Lib.trimS (s.extract 0 k).data.toList recDigs)) (by rw [ofL_size];intro e;exact h (hti.1 (List.length_eq_zero_iff.1 e))))
     clear hti
     have HAT:=Lib.hid (fun w hn=>AtoiNum_any s k w (by omega) (by omega) (by omega) hn)
     generalize s.extract 0 k=c at *
     generalize s.extract (k+1) s.size=r at *
     generalize ofL (Lib.trimS c.data.toList recDigs)=tl at *
     go_wp2_with fail
     refine (HTR.out _).mono ?_
     rintro e w3 ⟨rfl,hb⟩
     have HW3:=Lib.hid (HW.out.trans (hb.mono HW.out.size))
     clear hb
     by_cases hnum:IsNum s k
     ·have hem:=HTY.out hnum
      have hq1:(((byt s 0:Nat):Int)==48)=false:=by rw [beq_eq_false_iff_ne];omega
      have hq2:decide ((k:Int)<1)=false:=by rw [decide_eq_false_iff_not];omega
      have hq3:decide ((4:Int)<k)=false:=by rw [decide_eq_false_iff_not];omega
      have hh:RecHead s k:=⟨by omega,by omega,hk,hnum,h48,HBK.out⟩
      have HH:=Lib.hid hh
      have hvl:=valN_le hnum
      have hv4:valN s k<10000:=Nat.lt_of_lt_of_le hvl (Nat.le_trans (Nat.pow_le_pow_right (by omega) (show k<=4 by omega)) (by decide))
      have HNUM:=Lib.hid hnum
      clear hh hvl hnum HTY HTN HTR
      go_wp2_with fail
      refine (HAT.out _ HNUM.out).mono ?_
      rintro e w4 ⟨rfl,hb⟩
      have HW4:=Lib.hid (HW3.out.trans (hb.mono HW3.out.size))
      clear hb
      generalize hvn:valN s k=v at *
      have HVN:=Lib.hid hvn
      clear hvn
      by_cases h7:s.size<v
      ·have HF:=Lib.hid (recOf_short HH.out (by rw [HVN.out];exact h7))
       go_wp2_with fail
       refine (RNoL_any 7 _).mono ?_
       rintro e w9 ⟨rfl,hb⟩
       have HW9:=Lib.hid (HW4.out.trans (hb.mono HW4.out.size))
       obtain ⟨c0,c1,f0,f1⟩:=(HRB.out.on HW9.out).facts
       clear hb
       go_wp2
       (try simp only [Exit.inBlock,Exit.then])
       refine bodyPost_ret (v := .tuple #[.agg #[.string ⟨#[]⟩,.string ⟨#[]⟩],.string ⟨#[]⟩,.int .i64 7]) (by rw [results_rec3 rfl];go_simp) rfl ?_
       rw [HF.out]
       exact ⟨rfl,((HA0.out.trans (HW9.out.mono HA0.out.size)).setCell (p:=⟨w.heap.size,0,none⟩) (Nat.le_refl _) _).setCell (p:=⟨w.heap.size,1,none⟩) (Nat.le_refl _) _⟩
      ·by_cases h2:v<k+2
       ·have HF:=Lib.hid (recOf_end HH.out (by rw [HVN.out];omega) (.inl (by rw [HVN.out];exact h2)))
        go_wp2_with fail
        refine (RNoL_any 3 _).mono ?_
        rintro e w9 ⟨rfl,hb⟩
        have HW9:=Lib.hid (HW4.out.trans (hb.mono HW4.out.size))
        obtain ⟨c0,c1,f0,f1⟩:=(HRB.out.on HW9.out).facts
        clear hb
        go_wp2
        (try simp only [Exit.inBlock,Exit.then])
        refine bodyPost_ret (v := .tuple #[.agg #[.string ⟨#[]⟩,.string ⟨#[]⟩],.string ⟨#[]⟩,.int .i64 3]) (by rw [results_rec3 rfl];go_simp) rfl ?_
        rw [HF.out]
        exact ⟨rfl,((HA0.out.trans (HW9.out.mono HA0.out.size)).setCell (p:=⟨w.heap.size,0,none⟩) (Nat.le_refl _) _).setCell (p:=⟨w.heap.size,1,none⟩) (Nat.le_refl _) _⟩
       ·obtain ⟨m,rfl⟩:∃ m,v=m+1:=⟨v-1,by omega⟩
        have hm:m<s.size:=by omega
        have hbm:(s[m]'hm).toNat=byt s m:=byt_get s m hm
        by_cases h10:byt s m=10
        ·rw [h10] at hbm
         have hvs:valN s k-1=m:=by rw [HVN.out];omega
         have HEN:=Lib.hid (fun (h:∀ j,k+1<=j->j<m->byt s j≠61)=>recOf_none HH.out (by rw [HVN.out];omega) (by rw [HVN.out];omega) (by rw [hvs];exact h10) (by rw [hvs];exact h))
         have HEA:=Lib.hid (fun i (h:AtByte s 61 (k+1) m i)=>recOf_at (i:=i) HH.out (by rw [HVN.out];omega) (by rw [HVN.out];omega) (by rw [hvs];exact h10) (by rw [hvs];exact h))
         have hts:(s.extract (k+1) m).size=m-(k+1):=by simp;omega
         have HBP:=Lib.hid (fun j (hj:k+1+j<m)=>byt_part (s:=s) (a:=k+1) (b:=m) (j:=j) (by omega) hj)
         have hle0:k+1<=m:=by omega
         clear hvs
         go_wp2_with fail
         rcases idx_lt (s:=s.extract (k+1) m) (c:=61) with hlt|⟨i,hi,hii,hbi,hnoi⟩
         ·have hi:firstIdx (s.extract (k+1) m) 61 = -1:=idx_none (by cases h:hasB (s.extract (k+1) m) 61 with|false=>rfl|true=>have:=idx_ge h;omega)
          have HF:=Lib.hid (HEN.out (by
           intro j hj1 hj2 e
           have hq:k+1+(j-(k+1))=j:=by omega
           have hz:hasB (s.extract (k+1) m) 61=true:=hasB_true (k:=j-(k+1)) (by omega) (by rw [HBP.out _ (by omega),hq,e];rfl)
           have:=idx_ge hz
           omega))
          refine (CutNo_any _ 61 _ hi).mono ?_
          rintro e w5 ⟨rfl,n2,hw5⟩
          have HW5:=Lib.hid (show Below W0.heap.size W0 w5 by rw [hw5];exact below_drewN HW4.out n2)
          clear hw5
          generalize s.extract (k+1) m=t at *
          have HW6:=Lib.hid (HW5.out.alloc HW5.out.size (.cells #[.string t,.string ⟨#[]⟩] 85))
          clear hlt hi
          go_wp2_with fail
          refine (RNoL_any 3 _).mono ?_
          rintro e w9 ⟨rfl,hb⟩
          have HW9:=Lib.hid (HW6.out.trans (hb.mono HW6.out.size))
          obtain ⟨c0,c1,f0,f1⟩:=(HRB.out.on HW9.out).facts
          clear hb
          go_wp2
          (try simp only [Exit.inBlock,Exit.then])
          refine bodyPost_ret (v := .tuple #[.agg #[.string ⟨#[]⟩,.string ⟨#[]⟩],.string ⟨#[]⟩,.int .i64 3]) (by rw [results_rec3 rfl];go_simp) rfl ?_
          rw [HF.out]
          exact ⟨rfl,((HA0.out.trans (HW9.out.mono HA0.out.size)).setCell (p:=⟨w.heap.size,0,none⟩) (Nat.le_refl _) _).setCell (p:=⟨w.heap.size,1,none⟩) (Nat.le_refl _) _⟩
         ·have hbi:byt (s.extract (k+1) m) i=61:=hbi
          have hat:AtByte s 61 (k+1) m (k+1+i):=by
           refine ⟨by omega,by omega,?_,?_⟩
           ·rw [<-HBP.out i (by omega)];exact hbi
           ·intro j hj1 hj2 e
            have hq:k+1+(j-(k+1))=j:=by omega
            exact hnoi (j-(k+1)) (by omega) (by rw [HBP.out _ (by omega),hq,e];rfl)
          have HE:=Lib.hid (HEA.out _ hat)
          rw [HVN.out] at HE
          have hk1:(s.extract (k+1) m).extract 0 i=s.extract (k+1) (k+1+i):=ext_ext (by omega)
          have hk2:(s.extract (k+1) m).extract (i+1) (s.extract (k+1) m).size=s.extract (k+1+i+1) m:=by rw [hts,ext_ext (by omega)];congr 1;omega
          have HAB:=Lib.hid (fun f=>recAt_bad (s:=s) (k:=k) (n:=m+1) (i:=k+1+i) (f:=f))
          have HAO:=Lib.hid (recAt_odd (s:=s) (k:=k) (n:=m+1) (i:=k+1+i))
          have HAK:=Lib.hid (recAt_ok (s:=s) (k:=k) (n:=m+1) (i:=k+1+i))
          have hcy:=CutYes_any (s.extract (k+1) m) 61 i w4 (by rw [hts];have:=HSM.out;omega) hi hii
          rw [hk1,hk2] at hcy
          simp only [Nat.add_sub_cancel] at HAB HAO HAK
          have HX1:=Lib.hid (show (s.extract (k+1) (k+1+i)).size<=maxLen by simp;have:=HSM.out;omega)
          have HX2:=Lib.hid (show (s.extract (k+1+i+1) m).size<=maxLen by simp;have:=HSM.out;omega)
          refine hcy.mono ?_
          rintro e w5 ⟨rfl,n2,hw5⟩
          have HW5:=Lib.hid (show Below W0.heap.size W0 w5 by rw [hw5];exact below_drewN HW4.out n2)
          clear hw5
          clear hk1 hk2 hcy hat hbi hnoi hi hii hts
          generalize s.extract (k+1) (k+1+i)=key at *
          generalize s.extract (k+1+i+1) m=value at *
          generalize s.extract (k+1) m=t at *
          have HKB:=Lib.hid (show RBox 85 w5.heap.size key value (w5.alloc (.cells #[.string key,.string value] 85)) from heap_alloc_new w5 _)
          have HW6:=Lib.hid (HW5.out.alloc HW5.out.size (.cells #[.string key,.string value] 85))
          have HL:=Lib.hid (fun W=>RecL_any ⟨key,value⟩ W HX1.out HX2.out)
          have HWR:=Lib.hid (fun W hW=>RecW_any ⟨key,value⟩ W HX1.out HX2.out hW)
          simp only [Rec.cells] at HL HWR
          generalize hfq:recFault ⟨key,value⟩=f at *
          have HFQ:=Lib.hid hfq
          clear hfq
          go_wp2_with fail
          refine (HL.out _).mono ?_
          rintro e w7 ⟨rfl,hb⟩
          have HW7:=Lib.hid (HW6.out.trans (hb.mono HW6.out.size))
          have HKB7:=Lib.hid (HKB.out.on hb)
          clear hb
          by_cases hf0:f=0
          ·subst hf0
           rw [recWrite_ok HFQ.out] at HWR
           obtain ⟨k0,k1,_,_⟩:=HKB7.out.facts
           have HTX:=Lib.hid (HT.out.below (HA0.out.trans (HW7.out.mono HA0.out.size)))
           generalize recText ⟨key,value⟩=u at *
           go_wp2_with fail
           refine (HWR.out _ HTX.out).mono ?_
           rintro e w8 ⟨rfl,hb⟩
           have HW8:=Lib.hid (HW7.out.trans (hb.mono HW7.out.size))
           have HKB8:=Lib.hid (HKB7.out.on hb)
           clear hb k0 k1
           by_cases hu:u=s.extract 0 (m+1)
           ·have HF:=Lib.hid (HE.out.trans (HAK.out trivial hu))
            have hsq:=seq_t hu
            clear hu
            obtain ⟨c0,c1,f0,f1⟩:=(HRB.out.on HW8.out).facts
            obtain ⟨k0,k1,g0,g1⟩:=HKB8.out.facts
            have hn0:w.heap.size<w5.heap.size:=Nat.lt_of_lt_of_le HRB.out.lt HW5.out.size
            have hn1:¬ w.heap.size=w5.heap.size:=by omega
            have hn2:¬ w5.heap.size=w.heap.size:=by omega
            go_wp2_with fail
            go_region
            all_goals (go_wp2;(try simp only [Exit.inBlock,Exit.then]))
            all_goals (refine bodyPost_ret (v := .tuple #[.agg #[.string key,.string value],.string (s.extract (m+1) s.size),.int .i64 0]) (by rw [results_rec3 rfl];go_simp) rfl ?_)
            all_goals (rw [HF.out])
            all_goals (exact ⟨rfl,(((HA0.out.trans (HW8.out.mono HA0.out.size)).drew).setCell (p:=⟨w.heap.size,0,none⟩) (Nat.le_refl _) _).setCell (p:=⟨w.heap.size,1,none⟩) (Nat.le_refl _) _⟩)
           ·have HF:=Lib.hid (HE.out.trans (HAO.out trivial hu))
            have hsq:=seq_f hu
            clear hu
            go_wp2_with fail
            refine (RNoL_any 3 _).mono ?_
            rintro e w9 ⟨rfl,hb⟩
            have HW9:=Lib.hid (HW8.out.trans (hb.mono HW8.out.size))
            obtain ⟨c0,c1,f0,f1⟩:=(HRB.out.on HW9.out).facts
            clear hb
            go_wp2
            (try simp only [Exit.inBlock,Exit.then])
            refine bodyPost_ret (v := .tuple #[.agg #[.string ⟨#[]⟩,.string ⟨#[]⟩],.string ⟨#[]⟩,.int .i64 3]) (by rw [results_rec3 rfl];go_simp) rfl ?_
            rw [HF.out]
            exact ⟨rfl,((HA0.out.trans (HW9.out.mono HA0.out.size)).setCell (p:=⟨w.heap.size,0,none⟩) (Nat.le_refl _) _).setCell (p:=⟨w.heap.size,1,none⟩) (Nat.le_refl _) _⟩
          ·have HF:=Lib.hid (HE.out.trans (HAB.out f rfl hf0))
           go_wp2_with fail
           refine (RNoL_any f _).mono ?_
           rintro e w9 ⟨rfl,hb⟩
           have HW9:=Lib.hid (HW7.out.trans (hb.mono HW7.out.size))
           obtain ⟨c0,c1,f0,f1⟩:=(HRB.out.on HW9.out).facts
           clear hb
           go_wp2
           (try simp only [Exit.inBlock,Exit.then])
           refine bodyPost_ret (v := .tuple #[.agg #[.string ⟨#[]⟩,.string ⟨#[]⟩],.string ⟨#[]⟩,.int .i64 f]) (by rw [results_rec3 rfl];go_simp) rfl ?_
           rw [HF.out]
           exact ⟨rfl,((HA0.out.trans (HW9.out.mono HA0.out.size)).setCell (p:=⟨w.heap.size,0,none⟩) (Nat.le_refl _) _).setCell (p:=⟨w.heap.size,1,none⟩) (Nat.le_refl _) _⟩
        ·have hq10:(((byt s m:Nat):Int) != 10)=true:=by rw [bne_iff_ne];omega
         have HF:=Lib.hid (recOf_end HH.out (by rw [HVN.out];omega) (.inr (by rw [HVN.out];exact h10)))
         go_wp2_with fail
         refine (RNoL_any 3 _).mono ?_
         rintro e w9 ⟨rfl,hb⟩
         have HW9:=Lib.hid (HW4.out.trans (hb.mono HW4.out.size))
         obtain ⟨c0,c1,f0,f1⟩:=(HRB.out.on HW9.out).facts
         clear hb
         go_wp2
         (try simp only [Exit.inBlock,Exit.then])
         refine bodyPost_ret (v := .tuple #[.agg #[.string ⟨#[]⟩,.string ⟨#[]⟩],.string ⟨#[]⟩,.int .i64 3]) (by rw [results_rec3 rfl];go_simp) rfl ?_
         rw [HF.out]
         exact ⟨rfl,((HA0.out.trans (HW9.out.mono HA0.out.size)).setCell (p:=⟨w.heap.size,0,none⟩) (Nat.le_refl _) _).setCell (p:=⟨w.heap.size,1,none⟩) (Nat.le_refl _) _⟩
     ·have hem:=HTN.out hnum
      have HF:=Lib.hid (HNX.out (fun h=>hnum h.2.2.2.1))
      clear HTY HTN HTR
      go_wp2_with fail
      refine (RNoL_any 3 _).mono ?_
      rintro e w9 ⟨rfl,hb⟩
      have HW9:=Lib.hid (HW3.out.trans (hb.mono HW3.out.size))
      obtain ⟨c0,c1,f0,f1⟩:=(HRB.out.on HW9.out).facts
      clear hb
      go_wp2
      (try simp only [Exit.inBlock,Exit.then])
      refine bodyPost_ret (v := .tuple #[.agg #[.string ⟨#[]⟩,.string ⟨#[]⟩],.string ⟨#[]⟩,.int .i64 3]) (by rw [results_rec3 rfl];go_simp) rfl ?_
      rw [HF.out]
      exact ⟨rfl,((HA0.out.trans (HW9.out.mono HA0.out.size)).setCell (p:=⟨w.heap.size,0,none⟩) (Nat.le_refl _) _).setCell (p:=⟨w.heap.size,1,none⟩) (Nat.le_refl _) _⟩
end Go.Proofs.YtaffgndickdbiaaGreatDoor
