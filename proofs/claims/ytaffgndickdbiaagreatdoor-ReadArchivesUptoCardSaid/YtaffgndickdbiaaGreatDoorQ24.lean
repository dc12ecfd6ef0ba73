/-
  Texts: RecRr, PaxRd.
-/
import Derived.Test.YtaffgndickdbiaaGreatDoorQ23
set_option linter.unusedVariables false
set_option linter.unusedSimpArgs false
set_option linter.unusedSectionVars false
namespace Go.Creel
open Go.RowKit
theorem head_stop {s : ByteArray} {k m : Nat} (hn : IsNum s k) (hs : k = s.size ∨ (k < s.size ∧ (byt s k < 48 ∨ 57 < byt s k)) ∨ k = 5) (h : RecHead s m) : m = k := by
 obtain ⟨_,h2,h3,h4,_,h6⟩:=h
 rcases Nat.lt_trichotomy m k with e|e|e
 ·have:=hn m e;omega
 ·exact e
 ·have:=h4 k e;omega
theorem num_next {s : ByteArray} {k : Nat} (h : IsNum s k) (h1 : 48 ≤ byt s k) (h2 : byt s k ≤ 57) : IsNum s (k + 1) := by
 intro j hj
 by_cases e:j=k
 ·rw [e];exact ⟨h1,h2⟩
 ·exact h j (by omega)
end Go.Creel
namespace Go.Proofs.YtaffgndickdbiaaGreatDoor
open Go.Creel Go.RowKit
set_option maxRecDepth 100000 in
theorem RNoR_any (e : Int) (w : World) :
 Calls Tryz.prog 183 #[.int .i64 e] w fun x w'=>x = .returned (.tuple #[.agg #[.string ⟨#[]⟩,.string ⟨#[]⟩],.string ⟨#[]⟩,.int .i64 e])/\Below w.heap.size w w':=by
 go_enter Tryz.func183,Tryz.ntmps183
 go_wp2
 (try simp only [Exit.inBlock,Exit.then])
 refine bodyPost_ret (v := .tuple #[.agg #[.string ⟨#[]⟩,.string ⟨#[]⟩],.string ⟨#[]⟩,.int .i64 e]) (by rw [results_rec3 rfl];go_simp) rfl ?_
 exact ⟨rfl,((Below.refl _ _).alloc (Nat.le_refl _) _)⟩
set_option maxRecDepth 100000 in
set_option maxHeartbeats 4000000 in
theorem RecordOf_any (s : ByteArray) (w : World) (hs : s.size ≤ maxLen) (hT : Pow10 w) :
 Calls Tryz.prog 127 #[.string s] w fun e w'=>e = .returned (.tuple #[.agg (recOf s).1.cells,.string (recOf s).2.1,.int .i64 (recOf s).2.2])/\Below w.heap.size w w':=by
 have HT:=Lib.hid hT
 have HSM:=Lib.hid hs
 unfold maxLen at hs
 clear hT
 have HA0:=Lib.hid ((Below.refl w.heap.size w).alloc (Nat.le_refl _) (.cells #[.string ⟨#[]⟩,.string ⟨#[]⟩] 85))
 have HRB:=Lib.hid (show RBox 85 w.heap.size ⟨#[]⟩ ⟨#[]⟩ (w.alloc (.cells #[.string ⟨#[]⟩,.string ⟨#[]⟩] 85)) from heap_alloc_new w _)
 go_enter Tryz.func127,Tryz.ntmps127
 go_wp2
 generalize hW0:w.alloc (.cells #[.string ⟨#[]⟩,.string ⟨#[]⟩] 85)=W0 at *
 clear hW0
 have HW:=Lib.hid (Below.refl W0.heap.size W0)
 go_loopw [6,7] (fun v6 v7 wr=>∃ k:Nat,k<=s.size/\k<=5/\v6 = .int .i64 k/\v7 = .int .i64 (valN s k:Int)/\Hid (IsNum s k)/\wr=W0) (fun v6 _ _=>5-(intOf v6).toNat)
 case atStart=>exact ⟨0,by omega,by omega,rfl,rfl,Lib.hid (fun j hj=>absurd hj (by omega)),rfl⟩
 case round =>
  obtain ⟨k,hks,hk5,rfl,rfl,HNUM,hw⟩:=hrel
  rw [hw]
  clear hw
  have hv5:valN s k<100000:=Nat.lt_of_lt_of_le (valN_le HNUM.out) (Nat.le_trans (Nat.pow_le_pow_right (by omega) hk5) (by decide))
  by_cases hgo:k<s.size/\48<=byt s k/\byt s k<=57/\k<5
  ·obtain ⟨g1,g2,g3,g4⟩:=hgo
   have HNN:=Lib.hid (num_next HNUM.out g2 g3)
   have HVN:=Lib.hid (show ((valN s (k+1):Nat):Int)=10*(valN s k:Int)+((byt s k:Int)-48) by simp only [valN];omega)
   have hb:=byt_get s k g1
   have hb256:byt s k<256:=by omega
   generalize valN s k=v at *
   generalize byt s k=x at *
   go_wp2
   go_roundw
   case rel=>exact ⟨k+1,by omega,by omega,by simp,by rw [HVN.out],HNN,trivial⟩
   case measure=>simp only [intOf];omega
  ·have HST:=Lib.hid (show k=s.size\/(k<s.size/\(byt s k<48\/57<byt s k))\/k=5 by omega)
   have HNX:=Lib.hid (fun (h:¬ RecHead s k)=>recOf_head (s:=s) (fun ⟨m,hm⟩=>h (by rw [<-head_stop HNUM.out HST.out hm];exact hm)))
   go_upto_region 4 with fail
   go_cut [31] from 12 to 31 (fun v wx=>v = .bool false/\wx=W0)
   case first =>
    rcases (show (k<s.size/\byt s k<48)\/(k<s.size/\57<byt s k)\/k=s.size\/(k<s.size/\48<=byt s k/\byt s k<=57/\¬ k<5) by omega) with ⟨a1,a2⟩|⟨a1,a2⟩|a1|⟨a1,a2,a3,a4⟩
    ·have hb:=byt_get s k a1
     generalize byt s k=x at *
     clear hgo HNX HST
     go_wp2
     go_meet
     exact ⟨rfl,rfl⟩
    ·have hb:=byt_get s k a1
     have a3:48<=byt s k:=by omega
     generalize byt s k=x at *
     clear hgo HNX HST
     go_wp2
     go_meet
     exact ⟨rfl,rfl⟩
    ·clear hgo HNX HST
     go_wp2
     go_meet
     exact ⟨rfl,rfl⟩
    ·have hb:=byt_get s k a1
     generalize byt s k=x at *
     clear hgo HNX HST
     go_wp2
     go_meet
     exact ⟨by rw [decide_eq_false_iff_not.2 (by omega)],rfl⟩
   case rest =>
    obtain ⟨rfl,hwc⟩:=hcut
    rw [hwc]
    clear hwc
    clear hgo
    by_cases hk0:k=0
    ·have HF:=Lib.hid (HNX.out (fun h=>by have:=h.1;omega))
     go_wp2_with fail
     refine (RNoR_any 3 _).mono ?_
     rintro e w9 ⟨rfl,hb⟩
     have HW9:=Lib.hid (HW.out.trans (hb.mono HW.out.size))
     obtain ⟨c0,c1,f0,f1⟩:=(HRB.out.on HW9.out).facts
     clear hb
     go_wp2
     (try simp only [Exit.inBlock,Exit.then])
     refine bodyPost_ret (v := .tuple #[.agg #[.string ⟨#[]⟩,.string ⟨#[]⟩],.string ⟨#[]⟩,.int .i64 3]) (by rw [results_rec3 rfl];go_simp) rfl ?_
     rw [HF.out]
     exact ⟨rfl,((HA0.out.trans (HW9.out.mono HA0.out.size)).setCell (p:=⟨w.heap.size,0,none⟩) (Nat.le_refl _) _).setCell (p:=⟨w.heap.size,1,none⟩) (Nat.le_refl _) _⟩
    ·have hp0:0<s.size:=by omega
     have hb0:=byt_get s 0 hp0
     by_cases h4:4<k
     ·have HF:=Lib.hid (HNX.out (fun h=>by have:=h.2.1;omega))
      go_wp2_with fail
      refine (RNoR_any 3 _).mono ?_
      rintro e w9 ⟨rfl,hb⟩
      have HW9:=Lib.hid (HW.out.trans (hb.mono HW.out.size))
      obtain ⟨c0,c1,f0,f1⟩:=(HRB.out.on HW9.out).facts
      clear hb
      go_wp2
      (try simp only [Exit.inBlock,Exit.then])
      refine bodyPost_ret (v := .tuple #[.agg #[.string ⟨#[]⟩,.string ⟨#[]⟩],.string ⟨#[]⟩,.int .i64 3]) (by rw [results_rec3 rfl];go_simp) rfl ?_
      rw [HF.out]
      exact ⟨rfl,((HA0.out.trans (HW9.out.mono HA0.out.size)).setCell (p:=⟨w.heap.size,0,none⟩) (Nat.le_refl _) _).setCell (p:=⟨w.heap.size,1,none⟩) (Nat.le_refl _) _⟩
     ·by_cases h48:byt s 0=48
      ·have HF:=Lib.hid (HNX.out (fun h=>h.2.2.2.2.1 h48))
       rw [h48] at hb0
       go_wp2_with fail
       refine (RNoR_any 3 _).mono ?_
       rintro e w9 ⟨rfl,hb⟩
       have HW9:=Lib.hid (HW.out.trans (hb.mono HW.out.size))
       obtain ⟨c0,c1,f0,f1⟩:=(HRB.out.on HW9.out).facts
       clear hb
       go_wp2
       (try simp only [Exit.inBlock,Exit.then])
       refine bodyPost_ret (v := .tuple #[.agg #[.string ⟨#[]⟩,.string ⟨#[]⟩],.string ⟨#[]⟩,.int .i64 3]) (by rw [results_rec3 rfl];go_simp) rfl ?_
       rw [HF.out]
       exact ⟨rfl,((HA0.out.trans (HW9.out.mono HA0.out.size)).setCell (p:=⟨w.heap.size,0,none⟩) (Nat.le_refl _) _).setCell (p:=⟨w.heap.size,1,none⟩) (Nat.le_refl _) _⟩
      ·have hq0:(((byt s 0:Nat):Int)==48)=false:=by rw [beq_eq_false_iff_ne];omega
       have hqk:((k:Int)==0)=false:=by rw [beq_eq_false_iff_ne];omega
       have hqk4:decide ((4:Int)<k)=false:=by rw [decide_eq_false_iff_not];omega
       by_cases hks2:k=s.size
       ·have HF:=Lib.hid (HNX.out (fun h=>by have:=h.2.2.1;omega))
        have hqz:((s.size:Int)==0)=false:=by rw [beq_eq_false_iff_ne];omega
        have hqz4:decide ((4:Int)<s.size)=false:=by rw [decide_eq_false_iff_not];omega
        go_wp2_with fail
        refine (RNoR_any 3 _).mono ?_
        rintro e w9 ⟨rfl,hb⟩
        have HW9:=Lib.hid (HW.out.trans (hb.mono HW.out.size))
        obtain ⟨c0,c1,f0,f1⟩:=(HRB.out.on HW9.out).facts
        clear hb
        go_wp2
        (try simp only [Exit.inBlock,Exit.then])
        refine bodyPost_ret (v := .tuple #[.agg #[.string ⟨#[]⟩,.string ⟨#[]⟩],.string ⟨#[]⟩,.int .i64 3]) (by rw [results_rec3 rfl];go_simp) rfl ?_
        rw [HF.out]
        exact ⟨rfl,((HA0.out.trans (HW9.out.mono HA0.out.size)).setCell (p:=⟨w.heap.size,0,none⟩) (Nat.le_refl _) _).setCell (p:=⟨w.heap.size,1,none⟩) (Nat.le_refl _) _⟩
       ·have hk:k<s.size:=by omega
        have hbk:=byt_get s k hk
        have hqs:((k:Int)==(s.size:Int))=false:=by rw [beq_eq_false_iff_ne];omega
        by_cases h32:byt s k=32
        ·rw [h32] at hbk
         have HH:=Lib.hid (show RecHead s k from ⟨by omega,by omega,hk,HNUM.out,h48,h32⟩)
         clear HNX HST
         have hv4:valN s k<10000:=Nat.lt_of_lt_of_le (valN_le HNUM.out) (Nat.le_trans (Nat.pow_le_pow_right (by omega) (show k<=4 by omega)) (by decide))
         generalize hvn:valN s k=v at *
         have HVN:=Lib.hid hvn
         clear hvn hv5
         by_cases h7:s.size<v
         ·have HF:=Lib.hid (recOf_short HH.out (by rw [HVN.out];exact h7))
          go_wp2_with fail
          refine (RNoR_any 7 _).mono ?_
          rintro e w9 ⟨rfl,hb⟩
          have HW9:=Lib.hid (HW.out.trans (hb.mono HW.out.size))
          obtain ⟨c0,c1,f0,f1⟩:=(HRB.out.on HW9.out).facts
          clear hb
          go_wp2
          (try simp only [Exit.inBlock,Exit.then])
          refine bodyPost_ret (v := .tuple #[.agg #[.string ⟨#[]⟩,.string ⟨#[]⟩],.string ⟨#[]⟩,.int .i64 7]) (by rw [results_rec3 rfl];go_simp) rfl ?_
          rw [HF.out]
          exact ⟨rfl,((HA0.out.trans (HW9.out.mono HA0.out.size)).setCell (p:=⟨w.heap.size,0,none⟩) (Nat.le_refl _) _).setCell (p:=⟨w.heap.size,1,none⟩) (Nat.le_refl _) _⟩
         ·by_cases h2:v<k+2
          ·have HF:=Lib.hid (recOf_end HH.out (by rw [HVN.out];omega) (.inl (by rw [HVN.out];exact h2)))
           go_wp2_with fail
           refine (RNoR_any 3 _).mono ?_
           rintro e w9 ⟨rfl,hb⟩
           have HW9:=Lib.hid (HW.out.trans (hb.mono HW.out.size))
           obtain ⟨c0,c1,f0,f1⟩:=(HRB.out.on HW9.out).facts
           clear hb
           go_wp2
           (try simp only [Exit.inBlock,Exit.then])
           refine bodyPost_ret (v := .tuple #[.agg #[.string ⟨#[]⟩,.string ⟨#[]⟩],.string ⟨#[]⟩,.int .i64 3]) (by rw [results_rec3 rfl];go_simp) rfl ?_
           rw [HF.out]
           exact ⟨rfl,((HA0.out.trans (HW9.out.mono HA0.out.size)).setCell (p:=⟨w.heap.size,0,none⟩) (Nat.le_refl _) _).setCell (p:=⟨w.heap.size,1,none⟩) (Nat.le_refl _) _⟩
          ·obtain ⟨m,rfl⟩:∃ m,v=m+1:=⟨v-1,by omega⟩
           have hm:m<s.size:=by omega
           have hbm:(s[m]'hm).toNat=byt s m:=byt_get s m hm
           by_cases h10:byt s m=10
           ·rw [h10] at hbm
            have hvs:valN s k-1=m:=by rw [HVN.out];omega
            have HEN:=Lib.hid (fun (h:∀ j,k+1<=j->j<m->byt s j≠61)=>recOf_none HH.out (by rw [HVN.out];omega) (by rw [HVN.out];omega) (by rw [hvs];exact h10) (by rw [hvs];exact h))
            have HEA:=Lib.hid (fun i (h:AtByte s 61 (k+1) m i)=>recOf_at (i:=i) HH.out (by rw [HVN.out];omega) (by rw [HVN.out];omega) (by rw [hvs];exact h10) (by rw [hvs];exact h))
            clear hvs
            go_wp2
            go_loopw [8] (fun v8 wr=>∃ i:Nat,k+1<=i/\i<=m/\v8 = .int .i64 i/\Hid (∀ j,k+1<=j->j<i->byt s j≠61)/\wr=W0) (fun v8 _=>m-(intOf v8).toNat)
            case atStart=>exact ⟨k+1,by omega,by omega,by simp,Lib.hid (fun j h1 h2=>absurd h1 (by omega)),rfl⟩
            case round =>
             obtain ⟨i,hi1,hi2,rfl,HNJ,hw2⟩:=hrel
             rw [hw2]
             clear hw2
             by_cases him:i=m
             ·have HF:=Lib.hid (HEN.out (by rw [<-him];exact HNJ.out))
              subst him
              go_wp2_with fail
              refine (RNoR_any 3 _).mono ?_
              rintro e w9 ⟨rfl,hb⟩
              have HW9:=Lib.hid (HW.out.trans (hb.mono HW.out.size))
              obtain ⟨c0,c1,f0,f1⟩:=(HRB.out.on HW9.out).facts
              clear hb
              go_wp2
              (try simp only [Exit.inBlock,Exit.then])
              refine bodyPost_ret (v := .tuple #[.agg #[.string ⟨#[]⟩,.string ⟨#[]⟩],.string ⟨#[]⟩,.int .i64 3]) (by rw [results_rec3 rfl];go_simp) rfl ?_
              rw [HF.out]
              exact ⟨rfl,((HA0.out.trans (HW9.out.mono HA0.out.size)).setCell (p:=⟨w.heap.size,0,none⟩) (Nat.le_refl _) _).setCell (p:=⟨w.heap.size,1,none⟩) (Nat.le_refl _) _⟩
             ·have hil:i<s.size:=by omega
              have hbi:(s[i]'hil).toNat=byt s i:=byt_get s i hil
              by_cases h61:byt s i=61
              ·rw [h61] at hbi
               have hat:AtByte s 61 (k+1) m i:=⟨hi1,by omega,h61,HNJ.out⟩
               have HE:=Lib.hid (HEA.out _ hat)
               rw [HVN.out] at HE
               have HAB:=Lib.hid (fun f=>recAt_bad (s:=s) (k:=k) (n:=m+1) (i:=i) (f:=f))
               have HAO:=Lib.hid (recAt_odd (s:=s) (k:=k) (n:=m+1) (i:=i))
               have HAK:=Lib.hid (recAt_ok (s:=s) (k:=k) (n:=m+1) (i:=i))
               simp only [Nat.add_sub_cancel] at HAB HAO HAK
               have HX1:=Lib.hid (show (s.extract (k+1) i).size<=maxLen by simp;have:=HSM.out;omega)
               have HX2:=Lib.hid (show (s.extract (i+1) m).size<=maxLen by simp;have:=HSM.out;omega)
               have hqi:((i:Int)==(m:Int))=false:=by rw [beq_eq_false_iff_ne];omega
               have hw1:IntKind.i64.wrap ((k:Int)+1)=(k:Int)+1:=by rw [IntKind.wrap_i64];omega
               have hw2:IntKind.i64.wrap ((i:Int)+1)=(i:Int)+1:=by rw [IntKind.wrap_i64];omega
               have hw3:IntKind.i64.wrap ((m:Int)+1-1)=(m:Int):=by rw [IntKind.wrap_i64];omega
               have hle1:k+1<=i:=hi1
               have hle2:i+1<=m:=by omega
               clear hat hi1
               have hz1:(k:Int)+1<=(i:Int):=by omega
               have hz2:(i:Int)<=(s.size:Int):=by omega
               have hz3:(i:Int)+1<=(m:Int):=by omega
               have hz4:(m:Int)<=(s.size:Int):=by omega
               have hz5:(0:Int)<=(k:Int)+1:=by omega
               have hz6:(0:Int)<=(i:Int)+1:=by omega
               have hzf:¬ ((k:Int)+1<0):=by omega
               have hw4:IntKind.i64.wrap (m:Int)=(m:Int):=by rw [IntKind.wrap_i64];omega
               go_upto_region 18 with fail
               go_cut [9] from 118 to 129 (fun v wx=>v = .pointer (some ⟨W0.heap.size,0,none⟩)/\Hid (RBox 85 W0.heap.size (s.extract (k+1) i) (s.extract (i+1) m) wx)/\Hid (Below W0.heap.size W0 wx))
               case first =>
                go_region_held3 (fun _=>True) (trivial) (fail)
                all_goals (go_wp2_with fail)
                all_goals (go_meet)
                all_goals (first|exact ⟨rfl,Lib.hid (heap_alloc_new W0.drew _),Lib.hid (((Below.refl _ _).drew).alloc (Nat.le_refl _) _)⟩|exact ⟨rfl,Lib.hid (heap_alloc_new W0 _),Lib.hid (((Below.refl _ _)).alloc (Nat.le_refl _) _)⟩)
               case rest =>
                obtain ⟨rfl,HKB,HW6⟩:=hcut
                have HWR:=Lib.hid (fun W hW=>RecT_any ⟨s.extract (k+1) i,s.extract (i+1) m⟩ W HX1.out HX2.out hW)
                simp only [Rec.cells] at HWR
                generalize s.extract (k+1) i=key at *
                generalize s.extract (i+1) m=value at *
                obtain ⟨k0,k1,_,_⟩:=HKB.out.facts
                have HTX:=Lib.hid (HT.out.below (HA0.out.trans (HW6.out.mono HA0.out.size)))
                generalize hfq:recFault ⟨key,value⟩=f at *
                have HFQ:=Lib.hid hfq
                clear hfq hw1 hw2 hw3 hw4
                by_cases hf0:f=0
                ·subst hf0
                 rw [recWrite_ok HFQ.out] at HWR
                 generalize recText ⟨key,value⟩=u at *
                 go_wp2_with fail
                 refine (HWR.out _ HTX.out).mono ?_
                 rintro e w8 ⟨rfl,hb⟩
                 have HW8:=Lib.hid (HW6.out.trans (hb.mono HW6.out.size))
                 have HKB8:=Lib.hid (HKB.out.on hb)
                 clear hb k0 k1
                 by_cases hu:u=s.extract 0 (m+1)
                 ·have HF:=Lib.hid (HE.out.trans (HAK.out trivial hu))
                  have hsq:=seq_t hu
                  clear hu
                  obtain ⟨c0,c1,f0,f1⟩:=(HRB.out.on HW8.out).facts
                  obtain ⟨k0,k1,g0,g1⟩:=HKB8.out.facts
                  have hn0:w.heap.size<W0.heap.size:=HRB.out.lt
                  have hn1:¬ w.heap.size=W0.heap.size:=by omega
                  have hn2:¬ W0.heap.size=w.heap.size:=by omega
                  go_wp2_with fail
                  go_region
                  all_goals (go_wp2;(try simp only [Exit.inBlock,Exit.then]))
                  all_goals (refine bodyPost_ret (v := .tuple #[.agg #[.string key,.string value],.string (s.extract (m+1) s.size),.int .i64 0]) (by rw [results_rec3 rfl];go_simp) rfl ?_)
                  all_goals (rw [HF.out])
                  all_goals (exact ⟨rfl,(((HA0.out.trans (HW8.out.mono HA0.out.size)).drew).setCell (p:=⟨w.heap.size,0,none⟩) (Nat.le_refl _) _).setCell (p:=⟨w.heap.size,1,none⟩) (Nat.le_refl _) _⟩)
                 ·have HF:=Lib.hid (HE.out.trans (HAO.out trivial hu))
                  have hsq:=seq_f hu
                  clear hu
                  go_wp2_with fail
                  refine (RNoR_any 3 _).mono ?_
                  rintro e w9 ⟨rfl,hb⟩
                  have HW9:=Lib.hid (HW8.out.trans (hb.mono HW8.out.size))
                  obtain ⟨c0,c1,f0,f1⟩:=(HRB.out.on HW9.out).facts
                  clear hb
                  go_wp2
                  (try simp only [Exit.inBlock,Exit.then])
                  refine bodyPost_ret (v := .tuple #[.agg #[.string ⟨#[]⟩,.string ⟨#[]⟩],.string ⟨#[]⟩,.int .i64 3]) (by rw [results_rec3 rfl];go_simp) rfl ?_
                  rw [HF.out]
                  exact ⟨rfl,((HA0.out.trans (HW9.out.mono HA0.out.size)).setCell (p:=⟨w.heap.size,0,none⟩) (Nat.le_refl _) _).setCell (p:=⟨w.heap.size,1,none⟩) (Nat.le_refl _) _⟩
                ·have HF:=Lib.hid (HE.out.trans (HAB.out f rfl hf0))
                 rw [recWrite_bad (by rw [HFQ.out];exact hf0),HFQ.out] at HWR
                 have hqf:(f != 0)=true:=by rw [bne_iff_ne];exact hf0
                 go_wp2_with fail
                 refine (HWR.out _ HTX.out).mono ?_
                 rintro e w8 ⟨rfl,hb⟩
                 have HW8:=Lib.hid (HW6.out.trans (hb.mono HW6.out.size))
                 clear hb k0 k1
                 go_wp2_with fail
                 refine (RNoR_any f _).mono ?_
                 rintro e w9 ⟨rfl,hb⟩
                 have HW9:=Lib.hid (HW8.out.trans (hb.mono HW8.out.size))
                 obtain ⟨c0,c1,f0,f1⟩:=(HRB.out.on HW9.out).facts
                 clear hb
                 go_wp2
                 (try simp only [Exit.inBlock,Exit.then])
                 refine bodyPost_ret (v := .tuple #[.agg #[.string ⟨#[]⟩,.string ⟨#[]⟩],.string ⟨#[]⟩,.int .i64 f]) (by rw [results_rec3 rfl];go_simp) rfl ?_
                 rw [HF.out]
                 exact ⟨rfl,((HA0.out.trans (HW9.out.mono HA0.out.size)).setCell (p:=⟨w.heap.size,0,none⟩) (Nat.le_refl _) _).setCell (p:=⟨w.heap.size,1,none⟩) (Nat.le_refl _) _⟩
              ·have hq61:(((byt s i:Nat):Int) != 61)=true:=by rw [bne_iff_ne];omega
               have HNK:=Lib.hid (show ∀ j,k+1<=j->j<i+1->byt s j≠61 from fun j h1 h2=>by
                by_cases e:j=i
                ·rw [e];exact h61
                ·exact HNJ.out j h1 (by omega))
               go_wp2
               go_roundw
               case rel=>exact ⟨i+1,by omega,by omega,by simp,HNK,trivial⟩
               case measure=>simp only [intOf];omega
           ·have hq10:(((byt s m:Nat):Int) != 10)=true:=by rw [bne_iff_ne];omega
            have HF:=Lib.hid (recOf_end HH.out (by rw [HVN.out];omega) (.inr (by rw [HVN.out];exact h10)))
            go_wp2_with fail
            refine (RNoR_any 3 _).mono ?_
            rintro e w9 ⟨rfl,hb⟩
            have HW9:=Lib.hid (HW.out.trans (hb.mono HW.out.size))
            obtain ⟨c0,c1,f0,f1⟩:=(HRB.out.on HW9.out).facts
            clear hb
            go_wp2
            (try simp only [Exit.inBlock,Exit.then])
            refine bodyPost_ret (v := .tuple #[.agg #[.string ⟨#[]⟩,.string ⟨#[]⟩],.string ⟨#[]⟩,.int .i64 3]) (by rw [results_rec3 rfl];go_simp) rfl ?_
            rw [HF.out]
            exact ⟨rfl,((HA0.out.trans (HW9.out.mono HA0.out.size)).setCell (p:=⟨w.heap.size,0,none⟩) (Nat.le_refl _) _).setCell (p:=⟨w.heap.size,1,none⟩) (Nat.le_refl _) _⟩
        ·have hq32:(((byt s k:Nat):Int) != 32)=true:=by rw [bne_iff_ne];omega
         have HF:=Lib.hid (HNX.out (fun h=>h32 h.2.2.2.2.2))
         go_wp2_with fail
         refine (RNoR_any 3 _).mono ?_
         rintro e w9 ⟨rfl,hb⟩
         have HW9:=Lib.hid (HW.out.trans (hb.mono HW.out.size))
         obtain ⟨c0,c1,f0,f1⟩:=(HRB.out.on HW9.out).facts
         clear hb
         go_wp2
         (try simp only [Exit.inBlock,Exit.then])
         refine bodyPost_ret (v := .tuple #[.agg #[.string ⟨#[]⟩,.string ⟨#[]⟩],.string ⟨#[]⟩,.int .i64 3]) (by rw [results_rec3 rfl];go_simp) rfl ?_
         rw [HF.out]
         exact ⟨rfl,((HA0.out.trans (HW9.out.mono HA0.out.size)).setCell (p:=⟨w.heap.size,0,none⟩) (Nat.le_refl _) _).setCell (p:=⟨w.heap.size,1,none⟩) (Nat.le_refl _) _⟩
end Go.Proofs.YtaffgndickdbiaaGreatDoor
namespace Go.Creel
open Go.RowKit
def szOf : Value → Nat
 | .string s=>s.size
 | _=>0
end Go.Creel
namespace Go.Proofs.YtaffgndickdbiaaGreatDoor
open Go.Creel Go.RowKit
set_option maxRecDepth 100000 in
set_option maxHeartbeats 4000000 in
theorem PaxRead_any (s : ByteArray) (w : World) (hs : s.size ≤ 1048576) (hT : Pow10 w) :
 Calls Tryz.prog 51 #[.string s] w (RetRecs 85 w (paxOf s)):=by
 obtain ⟨i0,hi,hz0,hz1,hz2⟩:=info_parts info_record
 have HI:=Lib.hid (And.intro hi (And.intro hz0 (And.intro hz1 hz2)))
 have HT:=Lib.hid hT
 have HSM:=Lib.hid hs
 clear hi hz0 hz1 hz2 hT hs
 go_enter Tryz.func51,Tryz.ntmps51
 go_wp2
 go_loopw [0,4,5,6,7] (fun v0 v4 _ _ _ wr=>∃ (n:Nat) (r:ByteArray) (vv:Value) (acc:List Rec),v0 = .string r/\vv=v4/\r.size<=n/\acc.length+r.size<=s.size/\Hid (paxGo n r acc=paxGo s.size s [])/\Hid (OwnRecs 85 wr w.heap.size vv acc) ∧
  Hid (∀ x∈acc,x.key.size<=maxLen/\x.value.size<=maxLen)/\Hid (Below w.heap.size w wr)) (fun v0 _ _ _ _ _=>szOf v0)
 case atStart=>exact ⟨s.size,s,_,[],rfl,rfl,by omega,by simp,Lib.hid rfl,Lib.hid (OwnRecs.nil _ _ _),Lib.hid (by simp),Lib.hid (Below.refl _ _)⟩
 case round =>
  obtain ⟨n,r,vv,acc,rfl,rfl,hn,hlen,HG,HO,HS,HB⟩:=hrel
  by_cases h0:r.size=0
  ·have he:=empty_t h0
   have HGD:=Lib.hid (HG.out.symm.trans (paxGo_done h0))
   have hsl:=HO.out.slice (by have:=HSM.out;unfold maxLen;omega) HS.out
   have HCK:=Lib.hid (PaxL_any vv acc wr hsl)
   have HP:=Lib.hid (show paxOf s=if paxFault acc≠0 then ([],paxFault acc) else (acc,0) by unfold paxOf;rw [HGD.out];rfl)
   clear hsl
   generalize paxFault acc=f at *
   go_wp2_with fail
   refine HCK.out.mono ?_
   rintro e w2 ⟨rfl,hb⟩
   have HO2:=Lib.hid (HO.out.below hb)
   have HW2:=Lib.hid (HB.out.trans (hb.mono HB.out.size))
   clear hb
   by_cases hf:f=0
   ·subst hf
    go_wp2
    go_ret2
    rw [HP.out,if_neg (by simp)]
    exact ⟨_,rfl,HO2.out,HW2.out⟩
   ·have hne:(f != 0)=true:=by rw [bne_iff_ne];exact hf
    go_wp2
    go_ret2
    rw [HP.out,if_pos hf]
    exact ⟨_,rfl,OwnRecs.nil _ _ _,HW2.out⟩
  ·have he:=empty_f h0
   have HRD:=Lib.hid (fun w h=>RecRead_any r w (by have:=HSM.out;unfold maxLen;omega) h)
   have HBAD:=Lib.hid (fun h=>paxGo_bad (acc:=acc) h0 hn h)
   have HSTP:=Lib.hid (fun h=>paxGo_step (acc:=acc) h0 hn h)
   have HLS:=Lib.hid (fun h=>recOf_less (s:=r) h)
   generalize recOf r=p at *
   obtain ⟨⟨key,value⟩,rest,e0⟩:=p
   simp only [Rec.cells] at HRD
   go_wp2_with fail
   refine (HRD.out _ (HT.out.below HB.out)).mono ?_
   rintro e w2 ⟨rfl,hb⟩
   have HW2:=Lib.hid (HB.out.trans (hb.mono HB.out.size))
   have HO2:=Lib.hid (HO.out.below hb)
   clear hb
   by_cases hz:e0=0
   ·subst hz
    obtain ⟨l1,l2,l3⟩:=HLS.out rfl
    have HST:=Lib.hid (HSTP.out rfl)
    have HBA:=Lib.hid (Below.refl w2.heap.size w2 |>.alloc (Nat.le_refl _) (.cells #[.string key,.string value] 85))
    generalize hW3:w2.alloc (.cells #[.string key,.string value] 85)=w3 at *
    have HBB:=Lib.hid (Below.refl w3.heap.size w3 |>.alloc (Nat.le_refl _) (.cells #[.string key,.string value] 85))
    have HO3:=Lib.hid ((HO2.out.below HBA.out).below HBB.out)
    have HW4:=Lib.hid ((HW2.out.trans (HBA.out.mono HW2.out.size)).trans (HBB.out.mono (Nat.le_trans HW2.out.size HBA.out.size)))
    have hsm:=HSM.out
    have hc0:w3.cell? ⟨w2.heap.size,0,none⟩=some (.string key):=by rw [<-hW3];simp
    have hc1:w3.cell? ⟨w2.heap.size,1,none⟩=some (.string value):=by rw [<-hW3];simp
    go_wp2_with (at_builtin;refine wpList_app _ rfl (.tmp 20) (.tmp 22) 63 63 rfl _ _ rfl rfl (fun ty=>app_src _ 63 63 ty w.heap.size 85 i0 _ 2 32 Tryz.underlying63 HI.out.1 HI.out.2.1 HI.out.2.2.1 HI.out.2.2.2 rfl (by decide) _ _ acc.length 1 _ _ HO3.out (src_rec w3 _ _ _ Tryz.underlying63 ⟨key,value⟩) (by unfold maxLen;omega) (by omega) HW4.out.size) ?_;intro v3 w5 ho2 hg2 hv2;have HZ:=Lib.hid (And.intro ho2 (And.intro hg2 hv2.2));clear ho2 hg2 hv2)
    refine ⟨⟨n-1,rest,v3,acc++[⟨key,value⟩],rfl,rfl,by omega,by simp;omega,Lib.hid (HST.out.symm.trans HG.out),Lib.hid (OwnRecs.app (m:=[⟨key,value⟩]) HZ.out.1),Lib.hid ?_,Lib.hid (below_app HW4.out HZ.out.2.1 HO3.out HW4.out.size)⟩,by simp only [szOf];exact l1⟩
    intro x hx
    rcases List.mem_append.1 hx with a|a
    ·exact HS.out x a
    ·rw [List.mem_singleton.1 a]
     constructor<;>(simp only;unfold maxLen;omega)
   ·have hne:(e0 != 0)=true:=by rw [bne_iff_ne];exact hz
    have HF:=Lib.hid (show paxOf s=([],e0) by unfold paxOf;rw [<-HG.out,HBAD.out hz,if_pos hz])
    have HA:=Lib.hid (HW2.out.alloc HW2.out.size (.cells #[.string key,.string value] 85))
    go_wp2
    go_ret2
    rw [HF.out]
    exact ⟨_,rfl,OwnRecs.nil _ _ _,HA.out⟩
set_option maxRecDepth 100000 in
set_option maxHeartbeats 4000000 in
theorem PaxOf_any (s : ByteArray) (w : World) (hs : s.size ≤ 1048576) (hT : Pow10 w) :
 Calls Tryz.prog 55 #[.string s] w (RetRecs 85 w (paxOf s)):=by
 obtain ⟨i0,hi,hz0,hz1,hz2⟩:=info_parts info_record
 have HI:=Lib.hid (And.intro hi (And.intro hz0 (And.intro hz1 hz2)))
 have HT:=Lib.hid hT
 have HSM:=Lib.hid hs
 clear hi hz0 hz1 hz2 hT hs
 go_enter Tryz.func55,Tryz.ntmps55
 go_wp2
 go_loopw [0,4,5,6,7] (fun v0 v4 _ _ _ wr=>∃ (n:Nat) (r:ByteArray) (vv:Value) (acc:List Rec),v0 = .string r/\vv=v4/\r.size<=n/\acc.length+r.size<=s.size/\Hid (paxGo n r acc=paxGo s.size s [])/\Hid (OwnRecs 85 wr w.heap.size vv acc) ∧
  Hid (∀ x∈acc,x.key.size<=maxLen/\x.value.size<=maxLen)/\Hid (Below w.heap.size w wr)) (fun v0 _ _ _ _ _=>szOf v0)
 case atStart=>exact ⟨s.size,s,_,[],rfl,rfl,by omega,by simp,Lib.hid rfl,Lib.hid (OwnRecs.nil _ _ _),Lib.hid (by simp),Lib.hid (Below.refl _ _)⟩
 case round =>
  obtain ⟨n,r,vv,acc,rfl,rfl,hn,hlen,HG,HO,HS,HB⟩:=hrel
  by_cases h0:r.size=0
  ·have he:=empty_t h0
   have HGD:=Lib.hid (HG.out.symm.trans (paxGo_done h0))
   have hsl:=HO.out.slice (by have:=HSM.out;unfold maxLen;omega) HS.out
   have HCK:=Lib.hid (PaxR_any vv acc wr hsl)
   have HP:=Lib.hid (show paxOf s=if paxFault acc≠0 then ([],paxFault acc) else (acc,0) by unfold paxOf;rw [HGD.out];rfl)
   clear hsl
   generalize paxFault acc=f at *
   go_wp2_with fail
   refine HCK.out.mono ?_
   rintro e w2 ⟨rfl,hb⟩
   have HO2:=Lib.hid (HO.out.below hb)
   have HW2:=Lib.hid (HB.out.trans (hb.mono HB.out.size))
   clear hb
   by_cases hf:f=0
   ·subst hf
    go_wp2
    go_ret2
    rw [HP.out,if_neg (by simp)]
    exact ⟨_,rfl,HO2.out,HW2.out⟩
   ·have hne:(f != 0)=true:=by rw [bne_iff_ne];exact hf
    go_wp2
    go_ret2
    rw [HP.out,if_pos hf]
    exact ⟨_,rfl,OwnRecs.nil _ _ _,HW2.out⟩
  ·have he:=empty_f h0
   have HRD:=Lib.hid (fun w h=>RecordOf_any r w (by have:=HSM.out;unfold maxLen;omega) h)
   have HBAD:=Lib.hid (fun h=>paxGo_bad (acc:=acc) h0 hn h)
   have HSTP:=Lib.hid (fun h=>paxGo_step (acc:=acc) h0 hn h)
   have HLS:=Lib.hid (fun h=>recOf_less (s:=r) h)
   generalize recOf r=p at *
   obtain ⟨⟨key,value⟩,rest,e0⟩:=p
   simp only [Rec.cells] at HRD
   go_wp2_with fail
   refine (HRD.out _ (HT.out.below HB.out)).mono ?_
   rintro e w2 ⟨rfl,hb⟩
   have HW2:=Lib.hid (HB.out.trans (hb.mono HB.out.size))
   have HO2:=Lib.hid (HO.out.below hb)
   clear hb
   by_cases hz:e0=0
   ·subst hz
    obtain ⟨l1,l2,l3⟩:=HLS.out rfl
    have HST:=Lib.hid (HSTP.out rfl)
    have HBA:=Lib.hid (Below.refl w2.heap.size w2 |>.alloc (Nat.le_refl _) (.cells #[.string key,.string value] 85))
    generalize hW3:w2.alloc (.cells #[.string key,.string value] 85)=w3 at *
    have HBB:=Lib.hid (Below.refl w3.heap.size w3 |>.alloc (Nat.le_refl _) (.cells #[.string key,.string value] 85))
    have HO3:=Lib.hid ((HO2.out.below HBA.out).below HBB.out)
    have HW4:=Lib.hid ((HW2.out.trans (HBA.out.mono HW2.out.size)).trans (HBB.out.mono (Nat.le_trans HW2.out.size HBA.out.size)))
    have hsm:=HSM.out
    have hc0:w3.cell? ⟨w2.heap.size,0,none⟩=some (.string key):=by rw [<-hW3];simp
    have hc1:w3.cell? ⟨w2.heap.size,1,none⟩=some (.string value):=by rw [<-hW3];simp
    go_wp2_with (at_builtin;refine wpList_app _ rfl (.tmp 21) (.tmp 23) 63 63 rfl _ _ rfl rfl (fun ty=>app_src _ 63 63 ty w.heap.size 85 i0 _ 2 32 Tryz.underlying63 HI.out.1 HI.out.2.1 HI.out.2.2.1 HI.out.2.2.2 rfl (by decide) _ _ acc.length 1 _ _ HO3.out (src_rec w3 _ _ _ Tryz.underlying63 ⟨key,value⟩) (by unfold maxLen;omega) (by omega) HW4.out.size) ?_;intro v3 w5 ho2 hg2 hv2;have HZ:=Lib.hid (And.intro ho2 (And.intro hg2 hv2.2));clear ho2 hg2 hv2)
    refine ⟨⟨n-1,rest,v3,acc++[⟨key,value⟩],rfl,rfl,by omega,by simp;omega,Lib.hid (HST.out.symm.trans HG.out),Lib.hid (OwnRecs.app (m:=[⟨key,value⟩]) HZ.out.1),Lib.hid ?_,Lib.hid (below_app HW4.out HZ.out.2.1 HO3.out HW4.out.size)⟩,by simp only [szOf];exact l1⟩
    intro x hx
    rcases List.mem_append.1 hx with a|a
    ·exact HS.out x a
    ·rw [List.mem_singleton.1 a]
     constructor<;>(simp only;unfold maxLen;omega)
   ·have hne:(e0 != 0)=true:=by rw [bne_iff_ne];exact hz
    have HF:=Lib.hid (show paxOf s=([],e0) by unfold paxOf;rw [<-HG.out,HBAD.out hz,if_pos hz])
    have HA:=Lib.hid (HW2.out.alloc HW2.out.size (.cells #[.string key,.string value] 85))
    go_wp2
    go_ret2
    rw [HF.out]
    exact ⟨_,rfl,OwnRecs.nil _ _ _,HA.out⟩
end Go.Proofs.YtaffgndickdbiaaGreatDoor
