/-
  Texts: TimeR.
-/
import Derived.Test.YtaffgndickdbiaaGreatDoorQ16
set_option linter.unusedVariables false
set_option linter.unusedSimpArgs false
set_option linter.unusedSectionVars false
namespace Go.Creel
open Go.RowKit
def digAt (l : List UInt8) (k : Nat) : Bool := match l[k]? with | some c => isDig c | none => false
theorem digAt_some {l : List UInt8} {k : Nat} {c : UInt8} (h : l[k]? = some c) : digAt l k = isDig c := by unfold digAt; rw [h]
theorem digAt_none {l : List UInt8} {k : Nat} (h : l.length ≤ k) : digAt l k = false := by unfold digAt; rw [List.getElem?_eq_none h]
theorem digAt_true {l : List UInt8} {k : Nat} (h : digAt l k = true) : ∃ c,l[k]? = some c ∧ isDig c = true := by
 unfold digAt at h
 cases hc:l[k]? with
 | none=>rw [hc] at h;cases h
 | some c=>rw [hc] at h;exact ⟨c,rfl,h⟩
theorem digCount_stop {l : List UInt8} {k m : Nat} {b : Bool} (ha : (l.take k).all isDig = true) (hk : k ≤ l.length) (hm : k ≤ m) (hb : b = false → k = m) (h : (digAt l k && b) = false) : digCount m l = k := by
 refine digCount_is ha hk hm ?_
 cases hd:digAt l k with
 | true=>rw [hd] at h;exact .inl (hb (by simpa using h))
 | false =>
   by_cases hlt:k<l.length
   ·refine .inr (.inr ⟨l[k],List.getElem?_eq_getElem hlt,?_⟩)
    rw [digAt_some (List.getElem?_eq_getElem hlt)] at hd
    exact hd
   ·exact .inr (.inl (by omega))
theorem isDig_bds {c : UInt8} (h : isDig c = true) : 48 ≤ c.toNat ∧ c.toNat ≤ 57 := by
 unfold isDig at h
 exact of_decide_eq_true h
theorem frac_lt {l : List UInt8} {j : Nat} (ha : (l.take j).all isDig = true) (hj : j ≤ l.length) (h9 : j ≤ 9) : decVal (l.take j) * 10 ^ (9 - j) < 1000000000 := by
 have h1:=decVal_lt j (l:=l.take j) (by rw [List.length_take];omega) ha
 have h2:10 ^ j*10 ^ (9-j)=1000000000:=by rw [<-Nat.pow_add,show j+(9-j)=9 by omega]
 rw [<-h2]
 exact Nat.mul_lt_mul_of_pos_right h1 (Nat.pow_pos (by decide))
theorem frac_next {l : List UInt8} {j : Nat} {c : UInt8} (h : l[j]? = some c) (h9 : j < 9) : decVal (l.take (j + 1)) * 10 ^ (9 - (j + 1)) = decVal (l.take j) * 10 ^ (9 - j) + unitN j * (c.toNat - 48) := by
 rw [val_next h,unitN_at h9]
 have e:9-j=(8-j)+1:=by omega
 have e2:9-(j+1)=8-j:=by omega
 rw [e,e2,Nat.pow_succ,Nat.add_mul,Nat.mul_comm 10 (decVal _),Nat.mul_assoc,Nat.mul_comm 10,Nat.mul_comm (c.toNat-48)]
theorem unit_dig {u d : Nat} (hu : u ≤ 100000000) (hd : d ≤ 9) : u * d ≤ 900000000 := Nat.le_trans (Nat.mul_le_mul hu hd) (by decide)
theorem rest_three (l : List UInt8) : (l = [] ∧ belowOf l = false ∧ restOf l = l) ∨ (∃ c t,l = c :: t ∧ c.toNat = 45 ∧ belowOf l = true ∧ restOf l = t) ∨ (∃ c t,l = c :: t ∧ c.toNat ≠ 45 ∧ belowOf l = false ∧ restOf l = l) := by
 cases l with
 | nil=>exact .inl ⟨rfl,rfl,rfl⟩
 | cons c t =>
   by_cases h:c=45
   ·subst h
    exact .inr (.inl ⟨45,t,rfl,rfl,by simp [belowOf],by simp [restOf]⟩)
   ·refine .inr (.inr ⟨c,t,rfl,fun e=>h (UInt8.toNat_inj.1 e),by simp [belowOf,h],by simp [restOf,h]⟩)
theorem rawR_is {l r : List UInt8} {k : Nat} (hr : restOf l = r) (hk : digCount 14 r = k) : rawR l = ⟨belowOf l,decVal (r.take k),if r[k]? = some 46 then fracOf (r.drop (k + 1)) else 0,true⟩ := by
 unfold rawR
 rw [hr,hk]
theorem fracOf_is {p : List UInt8} {j : Nat} (h : digCount 9 p = j) : fracOf p = decVal (p.take j) * 10 ^ (9 - j) := by
 unfold fracOf
 rw [h]
end Go.Creel
namespace Go.Proofs.YtaffgndickdbiaaGreatDoor
open Go.Creel Go.RowKit
set_option maxRecDepth 100000 in
set_option maxHeartbeats 8000000 in
theorem TimeOf_any (l : List UInt8) (w : World) (hl : l.length ≤ maxLen) (hT : Pow10 w) :
 Calls Tryz.prog 58 #[.string (ofL l)] w fun e w'=>e = .returned (.tuple #[.int .i64 (timeAns l (rawR l)).1,.int .i64 (timeAns l (rawR l)).2.1,.int .i64 (timeAns l (rawR l)).2.2])/\Below w.heap.size w w':=by
 have HT:=Lib.hid hT
 have HB0:=Lib.hid (Below.refl w.heap.size w)
 unfold maxLen at hl
 clear hT
 have hsz:(ofL l).size<=9223372036854775807:=by rw [ofL_size];omega
 have HSS:=Lib.hid (ofL_data l)
 rcases rest_three l with ⟨hl0,h1,h2⟩|⟨c,t,hl0,hc,h1,h2⟩|⟨c,t,hl0,hc,h1,h2⟩
 ·have HBE:=Lib.hid h1
  have hs0:(ofL l).size=0:=by rw [ofL_size,hl0];rfl
  have hse:=empty_t hs0
  have HSR:=Lib.hid (HSS.out.trans h2.symm)
  obtain ⟨r,hr⟩:∃ r,restOf l=r:=⟨_,rfl⟩
  have HRR:=Lib.hid hr
  rw [hr] at HSR
  clear hr
  clear hl0 h1 h2 hl hs0
  generalize hsl:ofL l=sr at *
  have HSL:=Lib.hid hsl
  clear hsl
  go_enter Tryz.func58,Tryz.ntmps58
  go_wp2
  go_loop [7,8] (fun n i=>∃ k:Nat,k<=14/\k<=sr.size/\i = .int .i64 k/\n = .int .i64 (decVal (r.take k):Int)/\Hid ((r.take k).all isDig=true)) (fun _ i=>14-(intOf i).toNat)
  case atStart=>exact ⟨0,by omega,by omega,rfl,rfl,Lib.hid rfl⟩
  case round =>
   obtain ⟨k,hk14,hk,rfl,rfl,HA⟩:=hrel
   have HLEN:=Lib.hid (show k<=r.length by rw [<-HSR.out];simpa using hk)
   have hv2:decVal (r.take k)<100000000000000:=Nat.lt_of_lt_of_le (decVal_lt k (by have:=HLEN.out;rw [List.length_take];omega) HA.out) (Nat.le_trans (Nat.pow_le_pow_right (by decide) hk14) (by decide))
   go_upto_region 7 with fail
   go_cut [43] from 24 to 53 (fun u wx=>u = .bool (digAt r k&&decide (k<14))/\wx=w)
   case first =>
    by_cases hlt:k<sr.size
    ·obtain ⟨hl1,hl2⟩:=bl_list hlt
     rw [HSR.out] at hl2
     have HDA:=Lib.hid (digAt_some hl2)
     have HDT:=Lib.hid (isDig_t (c:=sr[k]))
     have HDF:=Lib.hid (isDig_f (c:=sr[k]))
     have hb':sr[k].toNat<256:=UInt8.toNat_lt _
     clear hl2
     by_cases hd1:sr[k].toNat<48
     ·have HQ:=Lib.hid (HDA.out.trans (HDF.out (.inl hd1)))
      go_wp2_with fail
      go_meet
      case rel=>exact ⟨by rw [HQ.out];rfl,rfl⟩
     ·by_cases hd2:57<sr[k].toNat
      ·have HQ:=Lib.hid (HDA.out.trans (HDF.out (.inr hd2)))
       go_wp2_with fail
       go_meet
       case rel=>exact ⟨by rw [HQ.out];rfl,rfl⟩
      ·have HQ:=Lib.hid (HDA.out.trans (HDT.out (by omega) (by omega)))
       go_wp2_with fail
       go_meet
       case rel=>exact ⟨by rw [HQ.out,Bool.true_and];exact congrArg Value.bool (decide_eq_decide.2 (by omega)),rfl⟩
    ·have HQ:=Lib.hid (digAt_none (l:=r) (k:=k) (by rw [<-HSR.out];simpa using Nat.le_of_not_lt hlt))
     go_wp2_with fail
     go_meet
     case rel=>exact ⟨by rw [HQ.out];rfl,rfl⟩
   case rest =>
    obtain ⟨rfl,hwx⟩:=hcut
    rw [hwx];clear hwx
    cases hc:(digAt r k&&decide (k<14)) with
    | true =>
      rw [Bool.and_eq_true] at hc
      obtain ⟨c,hc1,hc2⟩:=digAt_true hc.1
      have hk4:=of_decide_eq_true hc.2
      have hlt:k<sr.size:=by
       rw [<-HSR.out] at hc1
       have:=(List.getElem?_eq_some_iff.1 hc1).1
       simpa using this
      obtain ⟨hl1,hl2⟩:=bl_list hlt
      rw [HSR.out] at hl2
      have hcs:c=sr[k]:=Option.some.inj (hc1.symm.trans hl2)
      have HVN:=Lib.hid (val_next hl2)
      have HAN:=Lib.hid (all_next hl2 HA.out (by rw [<-hcs];exact hc2))
      have hbd:=isDig_bds hc2
      rw [hcs] at hbd
      obtain ⟨hb1,hb2⟩:=hbd
      clear hc hc1 hc2 hcs hl2
      generalize decVal (r.take k)=n at *
      go_wp2
      go_round
      case rel=>exact ⟨k+1,by omega,by omega,by go_num,by rw [HVN.out];congr 1;omega,HAN⟩
      case measure=>simp [intOf];omega
    | false =>
      have HK:=Lib.hid (digCount_stop HA.out HLEN.out hk14 (fun e=>by have:=of_decide_eq_false e;omega) hc)
      have HR0:=Lib.hid (rawR_is HRR.out HK.out)
      clear hc
      have hsecb:=hv2
      generalize hsec:decVal (r.take k)=sec at *
      clear hsec
      by_cases hlt:k<sr.size
      ·obtain ⟨hl1,hl2⟩:=bl_list hlt
       rw [HSR.out] at hl2
       by_cases hd:sr[k].toNat=46
       ·have hc46:sr[k]=46:=UInt8.toNat_inj.1 hd
        have HR1:=Lib.hid (HR0.out.trans (by rw [if_pos (by rw [hl2,hc46])]))
        clear hc46 hl2
        go_wp2_with fail
        go_loop [8,9,10] (fun i n u=>∃ j:Nat,j<=9/\k+1+j<=sr.size/\i = .int .i64 ((k+1+j:Nat):Int)/\n = .int .i64 ((decVal ((r.drop (k+1)).take j)*10 ^ (9-j):Nat):Int)/\u = .int .i64 (unitN j:Int)/\Hid (((r.drop (k+1)).take j).all isDig=true)) (fun _ _ u=>(intOf u).toNat)
        case atStart=>exact ⟨0,by omega,by omega,by go_num,by simp [decVal],rfl,Lib.hid rfl⟩
        case round =>
         obtain ⟨j,hj9,hjk,rfl,rfl,rfl,HA2⟩:=hrel
         have hdl:(r.drop (k+1)).length=sr.size-(k+1):=by rw [List.length_drop,<-HSR.out];simp
         have HDL:=Lib.hid hdl
         have hfl:=frac_lt HA2.out (by omega) hj9
         have hub:unitN j<=100000000:=by unfold unitN;split;exact Nat.le_trans (Nat.pow_le_pow_right (by decide) (show 8-j<=8 by omega)) (by decide);omega
         have HU9:=Lib.hid (show unitN j=0->j=9 by
          intro e
          rcases Nat.lt_or_ge j 9 with h|h
          ·have:=unitN_pos h;omega
          ·omega)
         have HUP:=Lib.hid (fun h:j<9=>unitN_pos h)
         have HUN:=Lib.hid (fun h:j<9=>unitN_next h)
         have HGA:=Lib.hid (show ∀ i,(r.drop (k+1))[i]?=r[k+1+i]? from fun i=>List.getElem?_drop)
         have HFN:=Lib.hid (fun (c:UInt8) (h:(r.drop (k+1))[j]?=some c) (h9:j<9)=>frac_next h h9)
         have HAN:=Lib.hid (fun (c:UInt8) (h:(r.drop (k+1))[j]?=some c) (hc:isDig c=true)=>all_next h HA2.out hc)
         have HST:=Lib.hid (fun h=>digCount_stop (b:=decide (0<unitN j)) HA2.out (show j<=_ by omega) hj9 (fun e=>by have:=of_decide_eq_false e;exact HU9.out (by omega)) h)
         have HFO:=Lib.hid (fun h=>fracOf_is (p:=r.drop (k+1)) (j:=j) h)
         clear hdl
         generalize decVal ((r.drop (k+1)).take j)*10 ^ (9-j)=n at *
         generalize hgu:unitN j=u at *
         have HGU:=Lib.hid hgu
         clear hgu
         go_upto_region 14 with fail
         go_cut [85] from 66 to 98 (fun q wx=>q = .bool (digAt (r.drop (k+1)) j&&decide (0<u))/\wx=w)
         case first =>
          by_cases hlt2:k+1+j<sr.size
          ·obtain ⟨hm1,hm2⟩:=bl_list hlt2
           rw [HSR.out,<-HGA.out] at hm2
           have HDA:=Lib.hid (digAt_some hm2)
           have HDT:=Lib.hid (isDig_t (c:=sr[k+1+j]))
           have HDF:=Lib.hid (isDig_f (c:=sr[k+1+j]))
           have hb':sr[k+1+j].toNat<256:=UInt8.toNat_lt _
           clear hm2
           generalize k+1+j=q at *
           by_cases hd1:sr[q].toNat<48
           ·have HQ:=Lib.hid (HDA.out.trans (HDF.out (.inl hd1)))
            go_wp2_with fail
            go_meet
            case rel=>exact ⟨by rw [HQ.out];rfl,rfl⟩
           ·by_cases hd2:57<sr[q].toNat
            ·have HQ:=Lib.hid (HDA.out.trans (HDF.out (.inr hd2)))
             go_wp2_with fail
             go_meet
             case rel=>exact ⟨by rw [HQ.out];rfl,rfl⟩
            ·have HQ:=Lib.hid (HDA.out.trans (HDT.out (by omega) (by omega)))
             go_wp2_with fail
             go_meet
             case rel=>exact ⟨by rw [HQ.out,Bool.true_and],rfl⟩
          ·have HQ:=Lib.hid (digAt_none (l:=r.drop (k+1)) (k:=j) (by rw [HDL.out];omega))
           generalize k+1+j=q at *
           go_wp2_with fail
           go_meet
           case rel=>exact ⟨by rw [HQ.out];rfl,rfl⟩
         case rest =>
          obtain ⟨rfl,hwx⟩:=hcut
          rw [hwx];clear hwx
          cases hc:(digAt (r.drop (k+1)) j&&decide (0<u)) with
          | true =>
            rw [Bool.and_eq_true] at hc
            obtain ⟨c,hc1,hc2⟩:=digAt_true hc.1
            have hu0:=of_decide_eq_true hc.2
            have hj:j<9:=by
             rcases Nat.lt_or_ge j 9 with h|h
             ·exact h
             ·exfalso
              have:=HGU.out
              unfold unitN at this
              rw [if_neg (by omega)] at this
              omega
            have hlt2:k+1+j<sr.size:=by
             have:=(List.getElem?_eq_some_iff.1 hc1).1
             have:=HDL.out
             omega
            obtain ⟨hm1,hm2⟩:=bl_list hlt2
            have HFN2:=Lib.hid (HFN.out c hc1 hj)
            have HAN2:=Lib.hid (HAN.out c hc1 hc2)
            rw [HSR.out,<-HGA.out] at hm2
            have hcs:c=sr[k+1+j]:=Option.some.inj (hc1.symm.trans hm2)
            have hbd:=isDig_bds hc2
            rw [hcs] at hbd HFN2
            obtain ⟨hb1,hb2⟩:=hbd
            have HUN2:=Lib.hid (HUN.out hj)
            have hun3:u / 10<u:=by omega
            have hz:=unit_dig hub (show sr[k+1+j].toNat-48<=9 by omega)
            have hzz:(u:Int)*((sr[k+1+j].toNat:Int)-48)=((u*(sr[k+1+j].toNat-48):Nat):Int):=by
             rw [Int.natCast_mul]
             congr 1
             omega
            generalize u*(sr[k+1+j].toNat-48)=z at *
            have HQ2:=Lib.hid (show k+1+(j+1)=(k+1+j)+1 by omega)
            clear hc hc1 hc2 hcs hm2
            generalize k+1+j=q at *
            go_wp2
            go_round
            case rel=>exact ⟨j+1,by omega,by rw [HQ2.out];omega,by rw [HQ2.out];go_num,by rw [HFN2.out];go_num,by rw [<-HUN2.out];rfl,HAN2⟩
            case measure=>simp [intOf];omega
          | false =>
            have HK2:=Lib.hid (HFO.out (HST.out hc))
            have HR:=Lib.hid (HR1.out.trans (by rw [HK2.out,HBE.out]))
            clear hc
            generalize hnano:n=nano at *
            generalize k+1+j=q at *
            have HF:=Lib.hid (show timeAns l (rawR l)=finA l (fixS false sec nano) (fixN false nano) by rw [timeAns_ok (by rw [HR.out]),HR.out])
            obtain ⟨f1,f2⟩:=fix_f (s:=sec) (n:=nano)
            rw [f1,f2] at HF
            clear f1 f2
            have HFIN:=Lib.hid HF.out
            have HTX:=Lib.hid (fun w h=>TimeText_any ((sec:Int)) ((nano:Int)) w (by unfold i64;omega) (by unfold i64;omega) h)
            generalize htx:timeText ((sec:Int)) ((nano:Int))=p at *
            obtain ⟨t,e0⟩:=p
            have HTE:=Lib.hid htx
            clear htx
            go_wp2_with fail
            refine (HTX.out _ (HT.out.below HB0.out)).mono ?_
            rintro e w2 ⟨rfl,hb⟩
            have HB:=Lib.hid (HB0.out.trans (hb.mono HB0.out.size))
            clear hb
            by_cases he:e0=0
            ·have hn0:(e0 != 0)=false:=by rw [he];rfl
             by_cases ht:t=sr
             ·have HFF:=Lib.hid (HFIN.out.trans (finA_pos HSL.out HTE.out he ht))
              have hq:=sne_f2 ht
              clear he ht
              go_wp2
              go_ret3
              exact ⟨ret_iii HFF.out,HB.out⟩
             ·have HFF:=Lib.hid (HFIN.out.trans (finA_text HSL.out HTE.out ht))
              have hq:=sne_t2 ht
              clear he ht
              go_wp2
              go_ret3
              exact ⟨ret_iii HFF.out,HB.out⟩
            ·have hn0:(e0 != 0)=true:=by rw [bne_iff_ne];exact he
             have HFF:=Lib.hid (HFIN.out.trans (finA_err HTE.out he))
             clear he
             go_wp2
             go_ret3
             exact ⟨ret_iii HFF.out,HB.out⟩
       ·have HR:=Lib.hid (HR0.out.trans (by rw [if_neg (by rw [hl2];intro e;exact hd (congrArg UInt8.toNat (Option.some.inj e))),HBE.out]))
        clear hl2
        have hd':((sr[k].toNat:Int)==46)=false:=by rw [beq_eq_false_iff_ne];omega
        have HF:=Lib.hid (show timeAns l (rawR l)=finA l (fixS false sec 0) (fixN false 0) by rw [timeAns_ok (by rw [HR.out]),HR.out])
        obtain ⟨f1,f2⟩:=fix_f (s:=sec) (n:=0)
        rw [f1,f2] at HF
        clear f1 f2
        have HFIN:=Lib.hid HF.out
        have HTX:=Lib.hid (fun w h=>TimeText_any ((sec:Int)) (0) w (by unfold i64;omega) (by unfold i64;omega) h)
        generalize htx:timeText ((sec:Int)) (0)=p at *
        obtain ⟨t,e0⟩:=p
        have HTE:=Lib.hid htx
        clear htx
        go_wp2_with fail
        refine (HTX.out _ (HT.out.below HB0.out)).mono ?_
        rintro e w2 ⟨rfl,hb⟩
        have HB:=Lib.hid (HB0.out.trans (hb.mono HB0.out.size))
        clear hb
        by_cases he:e0=0
        ·have hn0:(e0 != 0)=false:=by rw [he];rfl
         by_cases ht:t=sr
         ·have HFF:=Lib.hid (HFIN.out.trans (finA_pos HSL.out HTE.out he ht))
          have hq:=sne_f2 ht
          clear he ht
          go_wp2
          go_ret3
          exact ⟨ret_iii HFF.out,HB.out⟩
         ·have HFF:=Lib.hid (HFIN.out.trans (finA_text HSL.out HTE.out ht))
          have hq:=sne_t2 ht
          clear he ht
          go_wp2
          go_ret3
          exact ⟨ret_iii HFF.out,HB.out⟩
        ·have hn0:(e0 != 0)=true:=by rw [bne_iff_ne];exact he
         have HFF:=Lib.hid (HFIN.out.trans (finA_err HTE.out he))
         clear he
         go_wp2
         go_ret3
         exact ⟨ret_iii HFF.out,HB.out⟩
      ·have HR:=Lib.hid (HR0.out.trans (by rw [if_neg (by rw [List.getElem?_eq_none (by rw [<-HSR.out];simpa using Nat.le_of_not_lt hlt)];simp),HBE.out]))
       have HF:=Lib.hid (show timeAns l (rawR l)=finA l (fixS false sec 0) (fixN false 0) by rw [timeAns_ok (by rw [HR.out]),HR.out])
       obtain ⟨f1,f2⟩:=fix_f (s:=sec) (n:=0)
       rw [f1,f2] at HF
       clear f1 f2
       have HFIN:=Lib.hid HF.out
       have HTX:=Lib.hid (fun w h=>TimeText_any ((sec:Int)) (0) w (by unfold i64;omega) (by unfold i64;omega) h)
       generalize htx:timeText ((sec:Int)) (0)=p at *
       obtain ⟨t,e0⟩:=p
       have HTE:=Lib.hid htx
       clear htx
       go_wp2_with fail
       refine (HTX.out _ (HT.out.below HB0.out)).mono ?_
       rintro e w2 ⟨rfl,hb⟩
       have HB:=Lib.hid (HB0.out.trans (hb.mono HB0.out.size))
       clear hb
       by_cases he:e0=0
       ·have hn0:(e0 != 0)=false:=by rw [he];rfl
        by_cases ht:t=sr
        ·have HFF:=Lib.hid (HFIN.out.trans (finA_pos HSL.out HTE.out he ht))
         have hq:=sne_f2 ht
         clear he ht
         go_wp2
         go_ret3
         exact ⟨ret_iii HFF.out,HB.out⟩
        ·have HFF:=Lib.hid (HFIN.out.trans (finA_text HSL.out HTE.out ht))
         have hq:=sne_t2 ht
         clear he ht
         go_wp2
         go_ret3
         exact ⟨ret_iii HFF.out,HB.out⟩
       ·have hn0:(e0 != 0)=true:=by rw [bne_iff_ne];exact he
        have HFF:=Lib.hid (HFIN.out.trans (finA_err HTE.out he))
        clear he
        go_wp2
        go_ret3
        exact ⟨ret_iii HFF.out,HB.out⟩
 ·have HBE:=Lib.hid h1
  have hs0:0<(ofL l).size:=by rw [ofL_size,hl0];simp
  have hse:=empty_f (show (ofL l).size≠0 by omega)
  have hc0:(ofL l)[0].toNat=45:=by rw [byt_get (ofL l) 0 hs0];unfold byt;rw [ofL_data,hl0];exact hc
  have hext:((ofL l).extract 1 (ofL l).size).data.toList=t:=by
   rw [ofL_extract,ofL_data,ofL_size,hl0]
   simp
  have HEX:=Lib.hid hext
  have hxs:((ofL l).extract 1 (ofL l).size).size<=9223372036854775807:=by rw [ByteArray.size_extract];omega
  have HRR:=Lib.hid h2
  clear hl0 h1 h2 hl hc hext
  generalize hsl:ofL l=s at *
  have HSL:=Lib.hid hsl
  clear hsl
  go_enter Tryz.func58,Tryz.ntmps58
  go_wp2
  generalize s.extract 1 s.size=sr at *
  have HSR:=Lib.hid HEX.out
  clear hsz
  have hsz:=hxs
  obtain ⟨r,rfl⟩:∃ r,r=t:=⟨t,rfl⟩
  go_loop [7,8] (fun n i=>∃ k:Nat,k<=14/\k<=sr.size/\i = .int .i64 k/\n = .int .i64 (decVal (r.take k):Int)/\Hid ((r.take k).all isDig=true)) (fun _ i=>14-(intOf i).toNat)
  case atStart=>exact ⟨0,by omega,by omega,rfl,rfl,Lib.hid rfl⟩
  case round =>
   obtain ⟨k,hk14,hk,rfl,rfl,HA⟩:=hrel
   have HLEN:=Lib.hid (show k<=r.length by rw [<-HSR.out];simpa using hk)
   have hv2:decVal (r.take k)<100000000000000:=Nat.lt_of_lt_of_le (decVal_lt k (by have:=HLEN.out;rw [List.length_take];omega) HA.out) (Nat.le_trans (Nat.pow_le_pow_right (by decide) hk14) (by decide))
   go_upto_region 7 with fail
   go_cut [43] from 24 to 53 (fun u wx=>u = .bool (digAt r k&&decide (k<14))/\wx=w)
   case first =>
    by_cases hlt:k<sr.size
    ·obtain ⟨hl1,hl2⟩:=bl_list hlt
     rw [HSR.out] at hl2
     have HDA:=Lib.hid (digAt_some hl2)
     have HDT:=Lib.hid (isDig_t (c:=sr[k]))
     have HDF:=Lib.hid (isDig_f (c:=sr[k]))
     have hb':sr[k].toNat<256:=UInt8.toNat_lt _
     clear hl2
     by_cases hd1:sr[k].toNat<48
     ·have HQ:=Lib.hid (HDA.out.trans (HDF.out (.inl hd1)))
      go_wp2_with fail
      go_meet
      case rel=>exact ⟨by rw [HQ.out];rfl,rfl⟩
     ·by_cases hd2:57<sr[k].toNat
      ·have HQ:=Lib.hid (HDA.out.trans (HDF.out (.inr hd2)))
       go_wp2_with fail
       go_meet
       case rel=>exact ⟨by rw [HQ.out];rfl,rfl⟩
      ·have HQ:=Lib.hid (HDA.out.trans (HDT.out (by omega) (by omega)))
       go_wp2_with fail
       go_meet
       case rel=>exact ⟨by rw [HQ.out,Bool.true_and];exact congrArg Value.bool (decide_eq_decide.2 (by omega)),rfl⟩
    ·have HQ:=Lib.hid (digAt_none (l:=r) (k:=k) (by rw [<-HSR.out];simpa using Nat.le_of_not_lt hlt))
     go_wp2_with fail
     go_meet
     case rel=>exact ⟨by rw [HQ.out];rfl,rfl⟩
   case rest =>
    obtain ⟨rfl,hwx⟩:=hcut
    rw [hwx];clear hwx
    cases hc:(digAt r k&&decide (k<14)) with
    | true =>
      rw [Bool.and_eq_true] at hc
      obtain ⟨c,hc1,hc2⟩:=digAt_true hc.1
      have hk4:=of_decide_eq_true hc.2
      have hlt:k<sr.size:=by
       rw [<-HSR.out] at hc1
       have:=(List.getElem?_eq_some_iff.1 hc1).1
       simpa using this
      obtain ⟨hl1,hl2⟩:=bl_list hlt
      rw [HSR.out] at hl2
      have hcs:c=sr[k]:=Option.some.inj (hc1.symm.trans hl2)
      have HVN:=Lib.hid (val_next hl2)
      have HAN:=Lib.hid (all_next hl2 HA.out (by rw [<-hcs];exact hc2))
      have hbd:=isDig_bds hc2
      rw [hcs] at hbd
      obtain ⟨hb1,hb2⟩:=hbd
      clear hc hc1 hc2 hcs hl2
      generalize decVal (r.take k)=n at *
      go_wp2
      go_round
      case rel=>exact ⟨k+1,by omega,by omega,by go_num,by rw [HVN.out];congr 1;omega,HAN⟩
      case measure=>simp [intOf];omega
    | false =>
      have HK:=Lib.hid (digCount_stop HA.out HLEN.out hk14 (fun e=>by have:=of_decide_eq_false e;omega) hc)
      have HR0:=Lib.hid (rawR_is HRR.out HK.out)
      clear hc
      have hsecb:=hv2
      generalize hsec:decVal (r.take k)=sec at *
      clear hsec
      by_cases hlt:k<sr.size
      ·obtain ⟨hl1,hl2⟩:=bl_list hlt
       rw [HSR.out] at hl2
       by_cases hd:sr[k].toNat=46
       ·have hc46:sr[k]=46:=UInt8.toNat_inj.1 hd
        have HR1:=Lib.hid (HR0.out.trans (by rw [if_pos (by rw [hl2,hc46])]))
        clear hc46 hl2
        go_wp2_with fail
        go_loop [8,9,10] (fun i n u=>∃ j:Nat,j<=9/\k+1+j<=sr.size/\i = .int .i64 ((k+1+j:Nat):Int)/\n = .int .i64 ((decVal ((r.drop (k+1)).take j)*10 ^ (9-j):Nat):Int)/\u = .int .i64 (unitN j:Int)/\Hid (((r.drop (k+1)).take j).all isDig=true)) (fun _ _ u=>(intOf u).toNat)
        case atStart=>exact ⟨0,by omega,by omega,by go_num,by simp [decVal],rfl,Lib.hid rfl⟩
        case round =>
         obtain ⟨j,hj9,hjk,rfl,rfl,rfl,HA2⟩:=hrel
         have hdl:(r.drop (k+1)).length=sr.size-(k+1):=by rw [List.length_drop,<-HSR.out];simp
         have HDL:=Lib.hid hdl
         have hfl:=frac_lt HA2.out (by omega) hj9
         have hub:unitN j<=100000000:=by unfold unitN;split;exact Nat.le_trans (Nat.pow_le_pow_right (by decide) (show 8-j<=8 by omega)) (by decide);omega
         have HU9:=Lib.hid (show unitN j=0->j=9 by
          intro e
          rcases Nat.lt_or_ge j 9 with h|h
          ·have:=unitN_pos h;omega
          ·omega)
         have HUP:=Lib.hid (fun h:j<9=>unitN_pos h)
         have HUN:=Lib.hid (fun h:j<9=>unitN_next h)
         have HGA:=Lib.hid (show ∀ i,(r.drop (k+1))[i]?=r[k+1+i]? from fun i=>List.getElem?_drop)
         have HFN:=Lib.hid (fun (c:UInt8) (h:(r.drop (k+1))[j]?=some c) (h9:j<9)=>frac_next h h9)
         have HAN:=Lib.hid (fun (c:UInt8) (h:(r.drop (k+1))[j]?=some c) (hc:isDig c=true)=>all_next h HA2.out hc)
         have HST:=Lib.hid (fun h=>digCount_stop (b:=decide (0<unitN j)) HA2.out (show j<=_ by omega) hj9 (fun e=>by have:=of_decide_eq_false e;exact HU9.out (by omega)) h)
         have HFO:=Lib.hid (fun h=>fracOf_is (p:=r.drop (k+1)) (j:=j) h)
         clear hdl
         generalize decVal ((r.drop (k+1)).take j)*10 ^ (9-j)=n at *
         generalize hgu:unitN j=u at *
         have HGU:=Lib.hid hgu
         clear hgu
         go_upto_region 14 with fail
         go_cut [85] from 66 to 98 (fun q wx=>q = .bool (digAt (r.drop (k+1)) j&&decide (0<u))/\wx=w)
         case first =>
          by_cases hlt2:k+1+j<sr.size
          ·obtain ⟨hm1,hm2⟩:=bl_list hlt2
           rw [HSR.out,<-HGA.out] at hm2
           have HDA:=Lib.hid (digAt_some hm2)
           have HDT:=Lib.hid (isDig_t (c:=sr[k+1+j]))
           have HDF:=Lib.hid (isDig_f (c:=sr[k+1+j]))
           have hb':sr[k+1+j].toNat<256:=UInt8.toNat_lt _
           clear hm2
           generalize k+1+j=q at *
           by_cases hd1:sr[q].toNat<48
           ·have HQ:=Lib.hid (HDA.out.trans (HDF.out (.inl hd1)))
            go_wp2_with fail
            go_meet
            case rel=>exact ⟨by rw [HQ.out];rfl,rfl⟩
           ·by_cases hd2:57<sr[q].toNat
            ·have HQ:=Lib.hid (HDA.out.trans (HDF.out (.inr hd2)))
             go_wp2_with fail
             go_meet
             case rel=>exact ⟨by rw [HQ.out];rfl,rfl⟩
            ·have HQ:=Lib.hid (HDA.out.trans (HDT.out (by omega) (by omega)))
             go_wp2_with fail
             go_meet
             case rel=>exact ⟨by rw [HQ.out,Bool.true_and],rfl⟩
          ·have HQ:=Lib.hid (digAt_none (l:=r.drop (k+1)) (k:=j) (by rw [HDL.out];omega))
           generalize k+1+j=q at *
           go_wp2_with fail
           go_meet
           case rel=>exact ⟨by rw [HQ.out];rfl,rfl⟩
         case rest =>
          obtain ⟨rfl,hwx⟩:=hcut
          rw [hwx];clear hwx
          cases hc:(digAt (r.drop (k+1)) j&&decide (0<u)) with
          | true =>
            rw [Bool.and_eq_true] at hc
            obtain ⟨c,hc1,hc2⟩:=digAt_true hc.1
            have hu0:=of_decide_eq_true hc.2
            have hj:j<9:=by
             rcases Nat.lt_or_ge j 9 with h|h
             ·exact h
             ·exfalso
              have:=HGU.out
              unfold unitN at this
              rw [if_neg (by omega)] at this
              omega
            have hlt2:k+1+j<sr.size:=by
             have:=(List.getElem?_eq_some_iff.1 hc1).1
             have:=HDL.out
             omega
            obtain ⟨hm1,hm2⟩:=bl_list hlt2
            have HFN2:=Lib.hid (HFN.out c hc1 hj)
            have HAN2:=Lib.hid (HAN.out c hc1 hc2)
            rw [HSR.out,<-HGA.out] at hm2
            have hcs:c=sr[k+1+j]:=Option.some.inj (hc1.symm.trans hm2)
            have hbd:=isDig_bds hc2
            rw [hcs] at hbd HFN2
            obtain ⟨hb1,hb2⟩:=hbd
            have HUN2:=Lib.hid (HUN.out hj)
            have hun3:u / 10<u:=by omega
            have hz:=unit_dig hub (show sr[k+1+j].toNat-48<=9 by omega)
            have hzz:(u:Int)*((sr[k+1+j].toNat:Int)-48)=((u*(sr[k+1+j].toNat-48):Nat):Int):=by
             rw [Int.natCast_mul]
             congr 1
             omega
            generalize u*(sr[k+1+j].toNat-48)=z at *
            have HQ2:=Lib.hid (show k+1+(j+1)=(k+1+j)+1 by omega)
            clear hc hc1 hc2 hcs hm2
            generalize k+1+j=q at *
            go_wp2
            go_round
            case rel=>exact ⟨j+1,by omega,by rw [HQ2.out];omega,by rw [HQ2.out];go_num,by rw [HFN2.out];go_num,by rw [<-HUN2.out];rfl,HAN2⟩
            case measure=>simp [intOf];omega
          | false =>
            have HK2:=Lib.hid (HFO.out (HST.out hc))
            have HR:=Lib.hid (HR1.out.trans (by rw [HK2.out,HBE.out]))
            clear hc
            generalize hnano:n=nano at *
            generalize k+1+j=q at *
            have HF:=Lib.hid (show timeAns l (rawR l)=finA l (fixS true sec nano) (fixN true nano) by rw [timeAns_ok (by rw [HR.out]),HR.out])
            by_cases hn:0<nano
            ·obtain ⟨f1,f2⟩:=fix_tt (s:=sec) hn
             rw [f1,f2] at HF
             clear f1 f2
             have HFIN:=Lib.hid HF.out
             have HTX:=Lib.hid (fun w h=>TimeText_any (-(sec:Int)-1) (1000000000-(nano:Int)) w (by unfold i64;omega) (by unfold i64;omega) h)
             generalize htx:timeText (-(sec:Int)-1) (1000000000-(nano:Int))=p at *
             obtain ⟨t,e0⟩:=p
             have HTE:=Lib.hid htx
             clear htx
             go_wp2_with fail
             refine (HTX.out _ (HT.out.below HB0.out)).mono ?_
             rintro e w2 ⟨rfl,hb⟩
             have HB:=Lib.hid (HB0.out.trans (hb.mono HB0.out.size))
             clear hb
             by_cases he:e0=0
             ·have hn0:(e0 != 0)=false:=by rw [he];rfl
              by_cases ht:t=s
              ·have HFF:=Lib.hid (HFIN.out.trans (finA_pos HSL.out HTE.out he ht))
               have hq:=sne_f2 ht
               clear he ht
               go_wp2
               go_ret3
               exact ⟨ret_iii HFF.out,HB.out⟩
              ·have HFF:=Lib.hid (HFIN.out.trans (finA_text HSL.out HTE.out ht))
               have hq:=sne_t2 ht
               clear he ht
               go_wp2
               go_ret3
               exact ⟨ret_iii HFF.out,HB.out⟩
             ·have hn0:(e0 != 0)=true:=by rw [bne_iff_ne];exact he
              have HFF:=Lib.hid (HFIN.out.trans (finA_err HTE.out he))
              clear he
              go_wp2
              go_ret3
              exact ⟨ret_iii HFF.out,HB.out⟩
            ·obtain rfl:nano=0:=by omega
             obtain ⟨f1,f2⟩:=fix_t0 (s:=sec)
             rw [f1,f2] at HF
             clear f1 f2
             have HFIN:=Lib.hid HF.out
             have HTX:=Lib.hid (fun w h=>TimeText_any (-(sec:Int)) (0) w (by unfold i64;omega) (by unfold i64;omega) h)
             generalize htx:timeText (-(sec:Int)) (0)=p at *
             obtain ⟨t,e0⟩:=p
             have HTE:=Lib.hid htx
             clear htx
             go_wp2_with fail
             refine (HTX.out _ (HT.out.below HB0.out)).mono ?_
             rintro e w2 ⟨rfl,hb⟩
             have HB:=Lib.hid (HB0.out.trans (hb.mono HB0.out.size))
             clear hb
             by_cases he:e0=0
             ·have hn0:(e0 != 0)=false:=by rw [he];rfl
              by_cases ht:t=s
              ·have HFF:=Lib.hid (HFIN.out.trans (finA_pos HSL.out HTE.out he ht))
               have hq:=sne_f2 ht
               clear he ht
               go_wp2
               go_ret3
               exact ⟨ret_iii HFF.out,HB.out⟩
              ·have HFF:=Lib.hid (HFIN.out.trans (finA_text HSL.out HTE.out ht))
               have hq:=sne_t2 ht
               clear he ht
               go_wp2
               go_ret3
               exact ⟨ret_iii HFF.out,HB.out⟩
             ·have hn0:(e0 != 0)=true:=by rw [bne_iff_ne];exact he
              have HFF:=Lib.hid (HFIN.out.trans (finA_err HTE.out he))
              clear he
              go_wp2
              go_ret3
              exact ⟨ret_iii HFF.out,HB.out⟩
       ·have HR:=Lib.hid (HR0.out.trans (by rw [if_neg (by rw [hl2];intro e;exact hd (congrArg UInt8.toNat (Option.some.inj e))),HBE.out]))
        clear hl2
        have hd':((sr[k].toNat:Int)==46)=false:=by rw [beq_eq_false_iff_ne];omega
        have HF:=Lib.hid (show timeAns l (rawR l)=finA l (fixS true sec 0) (fixN true 0) by rw [timeAns_ok (by rw [HR.out]),HR.out])
        obtain ⟨f1,f2⟩:=fix_t0 (s:=sec)
        rw [f1,f2] at HF
        clear f1 f2
        have HFIN:=Lib.hid HF.out
        have HTX:=Lib.hid (fun w h=>TimeText_any (-(sec:Int)) (0) w (by unfold i64;omega) (by unfold i64;omega) h)
        generalize htx:timeText (-(sec:Int)) (0)=p at *
        obtain ⟨t,e0⟩:=p
        have HTE:=Lib.hid htx
        clear htx
        go_wp2_with fail
        refine (HTX.out _ (HT.out.below HB0.out)).mono ?_
        rintro e w2 ⟨rfl,hb⟩
        have HB:=Lib.hid (HB0.out.trans (hb.mono HB0.out.size))
        clear hb
        by_cases he:e0=0
        ·have hn0:(e0 != 0)=false:=by rw [he];rfl
         by_cases ht:t=s
         ·have HFF:=Lib.hid (HFIN.out.trans (finA_pos HSL.out HTE.out he ht))
          have hq:=sne_f2 ht
          clear he ht
          go_wp2
          go_ret3
          exact ⟨ret_iii HFF.out,HB.out⟩
         ·have HFF:=Lib.hid (HFIN.out.trans (finA_text HSL.out HTE.out ht))
          have hq:=sne_t2 ht
          clear he ht
          go_wp2
          go_ret3
          exact ⟨ret_iii HFF.out,HB.out⟩
        ·have hn0:(e0 != 0)=true:=by rw [bne_iff_ne];exact he
         have HFF:=Lib.hid (HFIN.out.trans (finA_err HTE.out he))
         clear he
         go_wp2
         go_ret3
         exact ⟨ret_iii HFF.out,HB.out⟩
      ·have HR:=Lib.hid (HR0.out.trans (by rw [if_neg (by rw [List.getElem?_eq_none (by rw [<-HSR.out];simpa using Nat.le_of_not_lt hlt)];simp),HBE.out]))
       have HF:=Lib.hid (show timeAns l (rawR l)=finA l (fixS true sec 0) (fixN true 0) by rw [timeAns_ok (by rw [HR.out]),HR.out])
       obtain ⟨f1,f2⟩:=fix_t0 (s:=sec)
       rw [f1,f2] at HF
       clear f1 f2
       have HFIN:=Lib.hid HF.out
       have HTX:=Lib.hid (fun w h=>TimeText_any (-(sec:Int)) (0) w (by unfold i64;omega) (by unfold i64;omega) h)
       generalize htx:timeText (-(sec:Int)) (0)=p at *
       obtain ⟨t,e0⟩:=p
       have HTE:=Lib.hid htx
       clear htx
       go_wp2_with fail
       refine (HTX.out _ (HT.out.below HB0.out)).mono ?_
       rintro e w2 ⟨rfl,hb⟩
       have HB:=Lib.hid (HB0.out.trans (hb.mono HB0.out.size))
       clear hb
       by_cases he:e0=0
       ·have hn0:(e0 != 0)=false:=by rw [he];rfl
        by_cases ht:t=s
        ·have HFF:=Lib.hid (HFIN.out.trans (finA_pos HSL.out HTE.out he ht))
         have hq:=sne_f2 ht
         clear he ht
         go_wp2
         go_ret3
         exact ⟨ret_iii HFF.out,HB.out⟩
        ·have HFF:=Lib.hid (HFIN.out.trans (finA_text HSL.out HTE.out ht))
         have hq:=sne_t2 ht
         clear he ht
         go_wp2
         go_ret3
         exact ⟨ret_iii HFF.out,HB.out⟩
       ·have hn0:(e0 != 0)=true:=by rw [bne_iff_ne];exact he
        have HFF:=Lib.hid (HFIN.out.trans (finA_err HTE.out he))
        clear he
        go_wp2
        go_ret3
        exact ⟨ret_iii HFF.out,HB.out⟩
 ·have HBE:=Lib.hid h1
  have hs0:0<(ofL l).size:=by rw [ofL_size,hl0];simp
  have hse:=empty_f (show (ofL l).size≠0 by omega)
  have hc0:(ofL l)[0].toNat≠45:=by rw [byt_get (ofL l) 0 hs0];unfold byt;rw [ofL_data,hl0];exact hc
  have hc1:(((ofL l)[0].toNat:Int)==45)=false:=by rw [beq_eq_false_iff_ne];omega
  have HSR:=Lib.hid (HSS.out.trans h2.symm)
  obtain ⟨r,hr⟩:∃ r,restOf l=r:=⟨_,rfl⟩
  have HRR:=Lib.hid hr
  rw [hr] at HSR
  clear hr
  clear hl0 h1 h2 hl hc hc0
  generalize hsl:ofL l=sr at *
  have HSL:=Lib.hid hsl
  clear hsl
  go_enter Tryz.func58,Tryz.ntmps58
  go_wp2
  go_loop [7,8] (fun n i=>∃ k:Nat,k<=14/\k<=sr.size/\i = .int .i64 k/\n = .int .i64 (decVal (r.take k):Int)/\Hid ((r.take k).all isDig=true)) (fun _ i=>14-(intOf i).toNat)
  case atStart=>exact ⟨0,by omega,by omega,rfl,rfl,Lib.hid rfl⟩
  case round =>
   obtain ⟨k,hk14,hk,rfl,rfl,HA⟩:=hrel
   have HLEN:=Lib.hid (show k<=r.length by rw [<-HSR.out];simpa using hk)
   have hv2:decVal (r.take k)<100000000000000:=Nat.lt_of_lt_of_le (decVal_lt k (by have:=HLEN.out;rw [List.length_take];omega) HA.out) (Nat.le_trans (Nat.pow_le_pow_right (by decide) hk14) (by decide))
   go_upto_region 7 with fail
   go_cut [43] from 24 to 53 (fun u wx=>u = .bool (digAt r k&&decide (k<14))/\wx=w)
   case first =>
    by_cases hlt:k<sr.size
    ·obtain ⟨hl1,hl2⟩:=bl_list hlt
     rw [HSR.out] at hl2
     have HDA:=Lib.hid (digAt_some hl2)
     have HDT:=Lib.hid (isDig_t (c:=sr[k]))
     have HDF:=Lib.hid (isDig_f (c:=sr[k]))
     have hb':sr[k].toNat<256:=UInt8.toNat_lt _
     clear hl2
     by_cases hd1:sr[k].toNat<48
     ·have HQ:=Lib.hid (HDA.out.trans (HDF.out (.inl hd1)))
      go_wp2_with fail
      go_meet
      case rel=>exact ⟨by rw [HQ.out];rfl,rfl⟩
     ·by_cases hd2:57<sr[k].toNat
      ·have HQ:=Lib.hid (HDA.out.trans (HDF.out (.inr hd2)))
       go_wp2_with fail
       go_meet
       case rel=>exact ⟨by rw [HQ.out];rfl,rfl⟩
      ·have HQ:=Lib.hid (HDA.out.trans (HDT.out (by omega) (by omega)))
       go_wp2_with fail
       go_meet
       case rel=>exact ⟨by rw [HQ.out,Bool.true_and];exact congrArg Value.bool (decide_eq_decide.2 (by omega)),rfl⟩
    ·have HQ:=Lib.hid (digAt_none (l:=r) (k:=k) (by rw [<-HSR.out];simpa using Nat.le_of_not_lt hlt))
     go_wp2_with fail
     go_meet
     case rel=>exact ⟨by rw [HQ.out];rfl,rfl⟩
   case rest =>
    obtain ⟨rfl,hwx⟩:=hcut
    rw [hwx];clear hwx
    cases hc:(digAt r k&&decide (k<14)) with
    | true =>
      rw [Bool.and_eq_true] at hc
      obtain ⟨c,hc1,hc2⟩:=digAt_true hc.1
      have hk4:=of_decide_eq_true hc.2
      have hlt:k<sr.size:=by
       rw [<-HSR.out] at hc1
       have:=(List.getElem?_eq_some_iff.1 hc1).1
       simpa using this
      obtain ⟨hl1,hl2⟩:=bl_list hlt
      rw [HSR.out] at hl2
      have hcs:c=sr[k]:=Option.some.inj (hc1.symm.trans hl2)
      have HVN:=Lib.hid (val_next hl2)
      have HAN:=Lib.hid (all_next hl2 HA.out (by rw [<-hcs];exact hc2))
      have hbd:=isDig_bds hc2
      rw [hcs] at hbd
      obtain ⟨hb1,hb2⟩:=hbd
      clear hc hc1 hc2 hcs hl2
      generalize decVal (r.take k)=n at *
      go_wp2
      go_round
      case rel=>exact ⟨k+1,by omega,by omega,by go_num,by rw [HVN.out];congr 1;omega,HAN⟩
      case measure=>simp [intOf];omega
    | false =>
      have HK:=Lib.hid (digCount_stop HA.out HLEN.out hk14 (fun e=>by have:=of_decide_eq_false e;omega) hc)
      have HR0:=Lib.hid (rawR_is HRR.out HK.out)
      clear hc
      have hsecb:=hv2
      generalize hsec:decVal (r.take k)=sec at *
      clear hsec
      by_cases hlt:k<sr.size
      ·obtain ⟨hl1,hl2⟩:=bl_list hlt
       rw [HSR.out] at hl2
       by_cases hd:sr[k].toNat=46
       ·have hc46:sr[k]=46:=UInt8.toNat_inj.1 hd
        have HR1:=Lib.hid (HR0.out.trans (by rw [if_pos (by rw [hl2,hc46])]))
        clear hc46 hl2
        go_wp2_with fail
        go_loop [8,9,10] (fun i n u=>∃ j:Nat,j<=9/\k+1+j<=sr.size/\i = .int .i64 ((k+1+j:Nat):Int)/\n = .int .i64 ((decVal ((r.drop (k+1)).take j)*10 ^ (9-j):Nat):Int)/\u = .int .i64 (unitN j:Int)/\Hid (((r.drop (k+1)).take j).all isDig=true)) (fun _ _ u=>(intOf u).toNat)
        case atStart=>exact ⟨0,by omega,by omega,by go_num,by simp [decVal],rfl,Lib.hid rfl⟩
        case round =>
         obtain ⟨j,hj9,hjk,rfl,rfl,rfl,HA2⟩:=hrel
         have hdl:(r.drop (k+1)).length=sr.size-(k+1):=by rw [List.length_drop,<-HSR.out];simp
         have HDL:=Lib.hid hdl
         have hfl:=frac_lt HA2.out (by omega) hj9
         have hub:unitN j<=100000000:=by unfold unitN;split;exact Nat.le_trans (Nat.pow_le_pow_right (by decide) (show 8-j<=8 by omega)) (by decide);omega
         have HU9:=Lib.hid (show unitN j=0->j=9 by
          intro e
          rcases Nat.lt_or_ge j 9 with h|h
          ·have:=unitN_pos h;omega
          ·omega)
         have HUP:=Lib.hid (fun h:j<9=>unitN_pos h)
         have HUN:=Lib.hid (fun h:j<9=>unitN_next h)
         have HGA:=Lib.hid (show ∀ i,(r.drop (k+1))[i]?=r[k+1+i]? from fun i=>List.getElem?_drop)
         have HFN:=Lib.hid (fun (c:UInt8) (h:(r.drop (k+1))[j]?=some c) (h9:j<9)=>frac_next h h9)
         have HAN:=Lib.hid (fun (c:UInt8) (h:(r.drop (k+1))[j]?=some c) (hc:isDig c=true)=>all_next h HA2.out hc)
         have HST:=Lib.hid (fun h=>digCount_stop (b:=decide (0<unitN j)) HA2.out (show j<=_ by omega) hj9 (fun e=>by have:=of_decide_eq_false e;exact HU9.out (by omega)) h)
         have HFO:=Lib.hid (fun h=>fracOf_is (p:=r.drop (k+1)) (j:=j) h)
         clear hdl
         generalize decVal ((r.drop (k+1)).take j)*10 ^ (9-j)=n at *
         generalize hgu:unitN j=u at *
         have HGU:=Lib.hid hgu
         clear hgu
         go_upto_region 14 with fail
         go_cut [85] from 66 to 98 (fun q wx=>q = .bool (digAt (r.drop (k+1)) j&&decide (0<u))/\wx=w)
         case first =>
          by_cases hlt2:k+1+j<sr.size
          ·obtain ⟨hm1,hm2⟩:=bl_list hlt2
           rw [HSR.out,<-HGA.out] at hm2
           have HDA:=Lib.hid (digAt_some hm2)
           have HDT:=Lib.hid (isDig_t (c:=sr[k+1+j]))
           have HDF:=Lib.hid (isDig_f (c:=sr[k+1+j]))
           have hb':sr[k+1+j].toNat<256:=UInt8.toNat_lt _
           clear hm2
           generalize k+1+j=q at *
           by_cases hd1:sr[q].toNat<48
           ·have HQ:=Lib.hid (HDA.out.trans (HDF.out (.inl hd1)))
            go_wp2_with fail
            go_meet
            case rel=>exact ⟨by rw [HQ.out];rfl,rfl⟩
           ·by_cases hd2:57<sr[q].toNat
            ·have HQ:=Lib.hid (HDA.out.trans (HDF.out (.inr hd2)))
             go_wp2_with fail
             go_meet
             case rel=>exact ⟨by rw [HQ.out];rfl,rfl⟩
            ·have HQ:=Lib.hid (HDA.out.trans (HDT.out (by omega) (by omega)))
             go_wp2_with fail
             go_meet
             case rel=>exact ⟨by rw [HQ.out,Bool.true_and],rfl⟩
          ·have HQ:=Lib.hid (digAt_none (l:=r.drop (k+1)) (k:=j) (by rw [HDL.out];omega))
           generalize k+1+j=q at *
           go_wp2_with fail
           go_meet
           case rel=>exact ⟨by rw [HQ.out];rfl,rfl⟩
         case rest =>
          obtain ⟨rfl,hwx⟩:=hcut
          rw [hwx];clear hwx
          cases hc:(digAt (r.drop (k+1)) j&&decide (0<u)) with
          | true =>
            rw [Bool.and_eq_true] at hc
            obtain ⟨c,hc1,hc2⟩:=digAt_true hc.1
            have hu0:=of_decide_eq_true hc.2
            have hj:j<9:=by
             rcases Nat.lt_or_ge j 9 with h|h
             ·exact h
             ·exfalso
              have:=HGU.out
              unfold unitN at this
              rw [if_neg (by omega)] at this
              omega
            have hlt2:k+1+j<sr.size:=by
             have:=(List.getElem?_eq_some_iff.1 hc1).1
             have:=HDL.out
             omega
            obtain ⟨hm1,hm2⟩:=bl_list hlt2
            have HFN2:=Lib.hid (HFN.out c hc1 hj)
            have HAN2:=Lib.hid (HAN.out c hc1 hc2)
            rw [HSR.out,<-HGA.out] at hm2
            have hcs:c=sr[k+1+j]:=Option.some.inj (hc1.symm.trans hm2)
            have hbd:=isDig_bds hc2
            rw [hcs] at hbd HFN2
            obtain ⟨hb1,hb2⟩:=hbd
            have HUN2:=Lib.hid (HUN.out hj)
            have hun3:u / 10<u:=by omega
            have hz:=unit_dig hub (show sr[k+1+j].toNat-48<=9 by omega)
            have hzz:(u:Int)*((sr[k+1+j].toNat:Int)-48)=((u*(sr[k+1+j].toNat-48):Nat):Int):=by
             rw [Int.natCast_mul]
             congr 1
             omega
            generalize u*(sr[k+1+j].toNat-48)=z at *
            have HQ2:=Lib.hid (show k+1+(j+1)=(k+1+j)+1 by omega)
            clear hc hc1 hc2 hcs hm2
            generalize k+1+j=q at *
            go_wp2
            go_round
            case rel=>exact ⟨j+1,by omega,by rw [HQ2.out];omega,by rw [HQ2.out];go_num,by rw [HFN2.out];go_num,by rw [<-HUN2.out];rfl,HAN2⟩
            case measure=>simp [intOf];omega
          | false =>
            have HK2:=Lib.hid (HFO.out (HST.out hc))
            have HR:=Lib.hid (HR1.out.trans (by rw [HK2.out,HBE.out]))
            clear hc
            generalize hnano:n=nano at *
            generalize k+1+j=q at *
            have HF:=Lib.hid (show timeAns l (rawR l)=finA l (fixS false sec nano) (fixN false nano) by rw [timeAns_ok (by rw [HR.out]),HR.out])
            obtain ⟨f1,f2⟩:=fix_f (s:=sec) (n:=nano)
            rw [f1,f2] at HF
            clear f1 f2
            have HFIN:=Lib.hid HF.out
            have HTX:=Lib.hid (fun w h=>TimeText_any ((sec:Int)) ((nano:Int)) w (by unfold i64;omega) (by unfold i64;omega) h)
            generalize htx:timeText ((sec:Int)) ((nano:Int))=p at *
            obtain ⟨t,e0⟩:=p
            have HTE:=Lib.hid htx
            clear htx
            go_wp2_with fail
            refine (HTX.out _ (HT.out.below HB0.out)).mono ?_
            rintro e w2 ⟨rfl,hb⟩
            have HB:=Lib.hid (HB0.out.trans (hb.mono HB0.out.size))
            clear hb
            by_cases he:e0=0
            ·have hn0:(e0 != 0)=false:=by rw [he];rfl
             by_cases ht:t=sr
             ·have HFF:=Lib.hid (HFIN.out.trans (finA_pos HSL.out HTE.out he ht))
              have hq:=sne_f2 ht
              clear he ht
              go_wp2
              go_ret3
              exact ⟨ret_iii HFF.out,HB.out⟩
             ·have HFF:=Lib.hid (HFIN.out.trans (finA_text HSL.out HTE.out ht))
              have hq:=sne_t2 ht
              clear he ht
              go_wp2
              go_ret3
              exact ⟨ret_iii HFF.out,HB.out⟩
            ·have hn0:(e0 != 0)=true:=by rw [bne_iff_ne];exact he
             have HFF:=Lib.hid (HFIN.out.trans (finA_err HTE.out he))
             clear he
             go_wp2
             go_ret3
             exact ⟨ret_iii HFF.out,HB.out⟩
       ·have HR:=Lib.hid (HR0.out.trans (by rw [if_neg (by rw [hl2];intro e;exact hd (congrArg UInt8.toNat (Option.some.inj e))),HBE.out]))
        clear hl2
        have hd':((sr[k].toNat:Int)==46)=false:=by rw [beq_eq_false_iff_ne];omega
        have HF:=Lib.hid (show timeAns l (rawR l)=finA l (fixS false sec 0) (fixN false 0) by rw [timeAns_ok (by rw [HR.out]),HR.out])
        obtain ⟨f1,f2⟩:=fix_f (s:=sec) (n:=0)
        rw [f1,f2] at HF
        clear f1 f2
        have HFIN:=Lib.hid HF.out
        have HTX:=Lib.hid (fun w h=>TimeText_any ((sec:Int)) (0) w (by unfold i64;omega) (by unfold i64;omega) h)
        generalize htx:timeText ((sec:Int)) (0)=p at *
        obtain ⟨t,e0⟩:=p
        have HTE:=Lib.hid htx
        clear htx
        go_wp2_with fail
        refine (HTX.out _ (HT.out.below HB0.out)).mono ?_
        rintro e w2 ⟨rfl,hb⟩
        have HB:=Lib.hid (HB0.out.trans (hb.mono HB0.out.size))
        clear hb
        by_cases he:e0=0
        ·have hn0:(e0 != 0)=false:=by rw [he];rfl
         by_cases ht:t=sr
         ·have HFF:=Lib.hid (HFIN.out.trans (finA_pos HSL.out HTE.out he ht))
          have hq:=sne_f2 ht
          clear he ht
          go_wp2
          go_ret3
          exact ⟨ret_iii HFF.out,HB.out⟩
         ·have HFF:=Lib.hid (HFIN.out.trans (finA_text HSL.out HTE.out ht))
          have hq:=sne_t2 ht
          clear he ht
          go_wp2
          go_ret3
          exact ⟨ret_iii HFF.out,HB.out⟩
        ·have hn0:(e0 != 0)=true:=by rw [bne_iff_ne];exact he
         have HFF:=Lib.hid (HFIN.out.trans (finA_err HTE.out he))
         clear he
         go_wp2
         go_ret3
         exact ⟨ret_iii HFF.out,HB.out⟩
      ·have HR:=Lib.hid (HR0.out.trans (by rw [if_neg (by rw [List.getElem?_eq_none (by rw [<-HSR.out];simpa using Nat.le_of_not_lt hlt)];simp),HBE.out]))
       have HF:=Lib.hid (show timeAns l (rawR l)=finA l (fixS false sec 0) (fixN false 0) by rw [timeAns_ok (by rw [HR.out]),HR.out])
       obtain ⟨f1,f2⟩:=fix_f (s:=sec) (n:=0)
       rw [f1,f2] at HF
       clear f1 f2
       have HFIN:=Lib.hid HF.out
       have HTX:=Lib.hid (fun w h=>TimeText_any ((sec:Int)) (0) w (by unfold i64;omega) (by unfold i64;omega) h)
       generalize htx:timeText ((sec:Int)) (0)=p at *
       obtain ⟨t,e0⟩:=p
       have HTE:=Lib.hid htx
       clear htx
       go_wp2_with fail
       refine (HTX.out _ (HT.out.below HB0.out)).mono ?_
       rintro e w2 ⟨rfl,hb⟩
       have HB:=Lib.hid (HB0.out.trans (hb.mono HB0.out.size))
       clear hb
       by_cases he:e0=0
       ·have hn0:(e0 != 0)=false:=by rw [he];rfl
        by_cases ht:t=sr
        ·have HFF:=Lib.hid (HFIN.out.trans (finA_pos HSL.out HTE.out he ht))
         have hq:=sne_f2 ht
         clear he ht
         go_wp2
         go_ret3
         exact ⟨ret_iii HFF.out,HB.out⟩
        ·have HFF:=Lib.hid (HFIN.out.trans (finA_text HSL.out HTE.out ht))
         have hq:=sne_t2 ht
         clear he ht
         go_wp2
         go_ret3
         exact ⟨ret_iii HFF.out,HB.out⟩
       ·have hn0:(e0 != 0)=true:=by rw [bne_iff_ne];exact he
        have HFF:=Lib.hid (HFIN.out.trans (finA_err HTE.out he))
        clear he
        go_wp2
        go_ret3
        exact ⟨ret_iii HFF.out,HB.out⟩
end Go.Proofs.YtaffgndickdbiaaGreatDoor
