/-
  Texts: ArcRd.
-/
import Derived.Test.YtaffgndickdbiaaGreatDoorQ38
set_option linter.unusedVariables false
set_option linter.unusedSimpArgs false
set_option linter.unusedSectionVars false
namespace Go.Proofs.YtaffgndickdbiaaGreatDoor
open Go.Creel Go.RowKit
set_option maxRecDepth 100000 in
set_option maxHeartbeats 1000000 in
theorem ArcIn_any (v : Value) (b : List UInt8) (w : World) (h : SliceC maxLen 1 ByteC w [v] b) (hbl : b.length ≤ 1048576) (hM : MaxOk w) (hE : ErrsOk w) (hT : Pow10 w) :
 Calls Tryz.prog 22 #[v] w (RetArc 26 w (arcIn b)):=by
 obtain ⟨a,cap,hv,hcp⟩:=bytes_form h
 subst hv
 have HM:=Lib.hid hM
 have HSM:=Lib.hid (SomeL_any (.slice a b.length cap) b w h hbl hM hE hT)
 have hat:=someOf_at b
 obtain ⟨⟨l,k,e0⟩,hso⟩:∃ q,someOf b=q:=⟨_,rfl⟩
 rw [hso] at HSM hat
 simp only at hat
 have HQ1:=Lib.hid (fun he=>arcIn_bad hso he)
 have HQ2:=Lib.hid (fun (he:e0=0) h2=>arcIn_form (by rw [hso,he]) h2)
 have HQ3:=Lib.hid (fun (he:e0=0) h2 h3=>arcIn_fault (by rw [hso,he]) h2 h3)
 have HQ4:=Lib.hid (fun (he:e0=0) h2 h3=>arcIn_ok (by rw [hso,he]) h2 h3)
 obtain ⟨ak,ck,hsk,hcpk⟩:=bytes_form (bytes_drop (i:=k) h hat)
 have hsl2:∀ W:World,(Instr.slice 24 (.slice a b.length cap) (some (.int .i64 (k:Int))) none none).run Tryz.prog W = .ok (.slice ak (b.drop k).length ck) W:=fun W=>by rw [<-hsk];exact run_dropB W a b.length cap k hat hcp
 have HD:=Lib.hid (bytes_drop (i:=k) h hat)
 rw [hsk] at HD
 have hdl:(b.drop k).length<=1048576:=by rw [List.length_drop];omega
 clear h hM hE hT hsk hso
 go_enter Tryz.func22,Tryz.ntmps22
 go_wp2_with fail
 refine HSM.out.mono ?_
 rintro e w1 ⟨v1,l1,rfl,ho1,hbr,hll,hpl,hb1⟩
 have HB1:=Lib.hid hb1
 have HO1:=Lib.hid ho1
 have HBR:=Lib.hid hbr
 have HPL:=Lib.hid hpl
 have HEF:=Lib.hid (entsFault_bare hbr)
 clear ho1 hbr hpl hb1 HSM
 simp only at HBR HEF
 by_cases he:e0=0
 ·subst he
  have HEN:=Lib.hid (Ends_any (.slice ak (b.drop k).length ck) (b.drop k) w1 (bytesBelow HD.out HB1.out) hdl)
  generalize hbk:b.drop k=bk at *
  by_cases hz:bk=zeroN 1024
  ·have HE1:Hid (Calls Tryz.prog 59 #[.slice ak bk.length ck] w1 fun e w'=>e = .returned (.bool true)/\Below w1.heap.size w1 w'):=Lib.hid (by have:=HEN.out;rw [decide_eq_true hz] at this;exact this)
   have HZN:=Lib.hid hz
   clear HEN hz
   go_wp2_with fail
   refine HE1.out.mono ?_
   rintro e w3 ⟨rfl,hb3⟩
   have HB3:=Lib.hid (HB1.out.trans (hb3.mono HB1.out.size))
   have HO3:=Lib.hid (HO1.out.below hb3)
   clear hb3 HE1
   have HCK:=Lib.hid (EntsCheck_any v1 l1 w3 (HM.out.below HB3.out) (HO3.out.slice (by unfold maxLen;omega)))
   rw [HEF.out] at HCK
   by_cases hf:entsFault l=0
   ·have HF:=Lib.hid (HQ4.out (by first|rfl|trivial) HZN.out hf)
    rw [hf] at HCK
    clear HQ1 HQ2 HQ3 HQ4 HZN hf
    go_wp2_with fail
    refine HCK.out.mono ?_
    rintro e w4 ⟨rfl,hb4⟩
    have HB4:=Lib.hid (HB3.out.trans (hb4.mono HB3.out.size))
    have HO4:=Lib.hid (HO3.out.below hb4)
    clear hb4
    go_wp2
    go_ret2
    rw [HF.out]
    exact ⟨_,l1,rfl,HO4.out,HBR.out,HPL.out,HB4.out⟩
   ·have HF:=Lib.hid (HQ3.out (by first|rfl|trivial) HZN.out hf)
    have hq2:(entsFault l != 0)=true:=by rw [bne_iff_ne];exact hf
    clear HQ1 HQ2 HQ3 HQ4 HZN hf
    go_wp2_with fail
    refine HCK.out.mono ?_
    rintro e w4 ⟨rfl,hb4⟩
    have HB4:=Lib.hid (HB3.out.trans (hb4.mono HB3.out.size))
    clear hb4
    go_wp2
    go_ret2
    rw [HF.out]
    exact ⟨_,[],rfl,OwnEnts.nil _ _ _,rfl,(fun x hx=>absurd hx (by simp)),HB4.out⟩
  ·have HE1:Hid (Calls Tryz.prog 59 #[.slice ak bk.length ck] w1 fun e w'=>e = .returned (.bool false)/\Below w1.heap.size w1 w'):=Lib.hid (by have:=HEN.out;rw [decide_eq_false hz] at this;exact this)
   have HF:=Lib.hid (HQ2.out rfl hz)
   clear HEN HQ1 HQ2 HQ3 HQ4 hz
   go_wp2_with fail
   refine HE1.out.mono ?_
   rintro e w3 ⟨rfl,hb3⟩
   have HB3:=Lib.hid (HB1.out.trans (hb3.mono HB1.out.size))
   clear hb3 HE1
   go_wp2
   go_ret2
   rw [HF.out]
   exact ⟨_,[],rfl,OwnEnts.nil _ _ _,rfl,(fun x hx=>absurd hx (by simp)),HB3.out⟩
 ·have hq:(e0 != 0)=true:=by rw [bne_iff_ne];exact he
  have HF:=Lib.hid (HQ1.out he)
  clear HQ1 HQ2 HQ3 HQ4 he
  go_wp2
  go_ret2
  rw [HF.out]
  exact ⟨_,[],rfl,OwnEnts.nil _ _ _,rfl,(fun x hx=>absurd hx (by simp)),HB1.out⟩
set_option maxRecDepth 100000 in
set_option maxHeartbeats 1000000 in
theorem ArcOf_any (v : Value) (b : List UInt8) (w : World) (h : SliceC maxLen 1 ByteC w [v] b) (hbl : b.length ≤ 1048576) (hM : MaxOk w) (hE : ErrsOk w) (hT : Pow10 w) :
 Calls Tryz.prog 23 #[v] w (RetArc 26 w (arcIn b)):=by
 obtain ⟨a,cap,hv,hcp⟩:=bytes_form h
 subst hv
 have HM:=Lib.hid hM
 have HSM:=Lib.hid (SomeR_any (.slice a b.length cap) b w h hbl hM hE hT)
 have hat:=someOf_at b
 obtain ⟨⟨l,k,e0⟩,hso⟩:∃ q,someOf b=q:=⟨_,rfl⟩
 rw [hso] at HSM hat
 simp only at hat
 have HQ1:=Lib.hid (fun he=>arcIn_bad hso he)
 have HQ2:=Lib.hid (fun (he:e0=0) h2=>arcIn_form (by rw [hso,he]) h2)
 have HQ3:=Lib.hid (fun (he:e0=0) h2 h3=>arcIn_fault (by rw [hso,he]) h2 h3)
 have HQ4:=Lib.hid (fun (he:e0=0) h2 h3=>arcIn_ok (by rw [hso,he]) h2 h3)
 obtain ⟨ak,ck,hsk,hcpk⟩:=bytes_form (bytes_drop (i:=k) h hat)
 have hsl2:∀ W:World,(Instr.slice 24 (.slice a b.length cap) (some (.int .i64 (k:Int))) none none).run Tryz.prog W = .ok (.slice ak (b.drop k).length ck) W:=fun W=>by rw [<-hsk];exact run_dropB W a b.length cap k hat hcp
 have HD:=Lib.hid (bytes_drop (i:=k) h hat)
 rw [hsk] at HD
 have hdl:(b.drop k).length<=1048576:=by rw [List.length_drop];omega
 clear h hM hE hT hsk hso
 go_enter Tryz.func23,Tryz.ntmps23
 go_wp2_with fail
 refine HSM.out.mono ?_
 rintro e w1 ⟨v1,l1,rfl,ho1,hbr,hll,hpl,hb1⟩
 have HB1:=Lib.hid hb1
 have HO1:=Lib.hid ho1
 have HBR:=Lib.hid hbr
 have HPL:=Lib.hid hpl
 have HEF:=Lib.hid (entsFault_bare hbr)
 clear ho1 hbr hpl hb1 HSM
 simp only at HBR HEF
 by_cases he:e0=0
 ·subst he
  have hbd:∀ n,Below w1.heap.size w1 (w1.drewN n):=fun n=>⟨rfl,rfl,rfl,Nat.le_refl _,fun _ _=>rfl⟩
  have hcv:=fun n=>conv (w1.drewN n) (bytesBelow HD.out (HB1.out.trans ((hbd n).mono HB1.out.size)))
  have HBD:=Lib.hid hbd
  have HZR:=Lib.hid (fun n=>zeros_any 1024 (w1.drewN n) (by decide) (by decide))
  have hzs:zerosS (1024:Int).toNat=ofL (zeroN 1024):=rfl
  rw [hzs] at HZR
  generalize hbk:b.drop k=bk at *
  clear hbd hzs hbk
  by_cases hz:bk=zeroN 1024
  ·have hcmp:=ne_t hz
   have HZN:=Lib.hid hz
   clear hz
   go_upto_region 4 with fail
   go_quiet ((go_at_call 60;exact quiet_same (HZR.out _)))
   have HB3:=Lib.hid (HB1.out.trans ((HBD.out nq).mono HB1.out.size))
   have HO3:=Lib.hid (HO1.out.below (HBD.out nq))
   clear HZR hcv hcmp HBD
   generalize w1.drewN nq=w3 at *
   have HCK:=Lib.hid (EntsFault_any v1 l1 w3 (HO3.out.slice (by unfold maxLen;omega)))
   rw [HEF.out] at HCK
   by_cases hf:entsFault l=0
   ·have HF:=Lib.hid (HQ4.out (by first|rfl|trivial) HZN.out hf)
    rw [hf] at HCK
    clear HQ1 HQ2 HQ3 HQ4 HZN hf
    go_wp2_with fail
    refine HCK.out.mono ?_
    rintro e w4 ⟨rfl,hb4⟩
    have HB4:=Lib.hid (HB3.out.trans (hb4.mono HB3.out.size))
    have HO4:=Lib.hid (HO3.out.below hb4)
    clear hb4
    go_wp2
    go_ret2
    rw [HF.out]
    exact ⟨_,l1,rfl,HO4.out,HBR.out,HPL.out,HB4.out⟩
   ·have HF:=Lib.hid (HQ3.out (by first|rfl|trivial) HZN.out hf)
    have hq2:(entsFault l != 0)=true:=by rw [bne_iff_ne];exact hf
    clear HQ1 HQ2 HQ3 HQ4 HZN hf
    go_wp2_with fail
    refine HCK.out.mono ?_
    rintro e w4 ⟨rfl,hb4⟩
    have HB4:=Lib.hid (HB3.out.trans (hb4.mono HB3.out.size))
    clear hb4
    go_wp2
    go_ret2
    rw [HF.out]
    exact ⟨_,[],rfl,OwnEnts.nil _ _ _,rfl,(fun x hx=>absurd hx (by simp)),HB4.out⟩
  ·have hcmp:=ne_f hz
   have HF:=Lib.hid (HQ2.out rfl hz)
   clear HQ1 HQ2 HQ3 HQ4 hz
   go_upto_region 4 with fail
   go_quiet ((go_at_call 60;exact quiet_same (HZR.out _)))
   go_wp2
   go_ret2
   rw [HF.out]
   exact ⟨_,[],rfl,OwnEnts.nil _ _ _,rfl,(fun x hx=>absurd hx (by simp)),HB1.out.trans ((HBD.out _).mono HB1.out.size)⟩
 ·have hq:(e0 != 0)=true:=by rw [bne_iff_ne];exact he
  have HF:=Lib.hid (HQ1.out he)
  clear HQ1 HQ2 HQ3 HQ4 he
  go_wp2
  go_ret2
  rw [HF.out]
  exact ⟨_,[],rfl,OwnEnts.nil _ _ _,rfl,(fun x hx=>absurd hx (by simp)),HB1.out⟩
end Go.Proofs.YtaffgndickdbiaaGreatDoor
