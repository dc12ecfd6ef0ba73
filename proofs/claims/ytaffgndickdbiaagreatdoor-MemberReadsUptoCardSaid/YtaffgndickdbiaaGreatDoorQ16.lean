/-
  Texts: TimeW.
-/
import Derived.Test.YtaffgndickdbiaaGreatDoorQ15
set_option linter.unusedVariables false
set_option linter.unusedSimpArgs false
set_option linter.unusedSectionVars false
namespace Go.Creel
open Go.RowKit
def finA (l : List UInt8) (a n : Int) : Int × Int × Int := if timeText a n = (ofL l,0) then (a,n,0) else (0,0,3)
theorem timeAns_no {l : List UInt8} {r : Raw} (h : r.ok = false) : timeAns l r = (0,0,3) := by unfold timeAns; rw [if_neg (by rw [h]; simp)]
theorem timeAns_ok {l : List UInt8} {r : Raw} (h : r.ok = true) : timeAns l r = finA l (fixS r.below r.second r.nano) (fixN r.below r.nano) := by
 unfold timeAns finA
 by_cases ht:timeText (fixS r.below r.second r.nano) (fixN r.below r.nano)=(ofL l,0)
 ·rw [if_pos ⟨h,ht⟩,if_pos ht]
 ·rw [if_neg (fun e=>ht e.2),if_neg ht]
theorem finA_pos {l : List UInt8} {a n e : Int} {t s : ByteArray} (hs : ofL l = s) (h : timeText a n = (t,e)) (he : e = 0) (ht : t = s) : finA l a n = (a,n,0) := by
 unfold finA;rw [h,he,ht,hs,if_pos rfl]
theorem finA_err {l : List UInt8} {a n e : Int} {t : ByteArray} (h : timeText a n = (t,e)) (he : ¬ e = 0) : finA l a n = (0,0,3) := by
 unfold finA;rw [h,if_neg (fun q=>he (congrArg Prod.snd q))]
theorem finA_text {l : List UInt8} {a n e : Int} {t s : ByteArray} (hs : ofL l = s) (h : timeText a n = (t,e)) (ht : ¬ t = s) : finA l a n = (0,0,3) := by
 unfold finA;rw [h,hs,if_neg (fun q=>ht (congrArg Prod.fst q))]
theorem digitsP_lt (l : List UInt8) (m : Nat) : (digitsP l m).1 < 10 ^ m := by
 unfold digitsP
 split
 ·exact Nat.pow_pos (by decide)
 ·split
  ·rename_i h1 h2
   exact Nat.lt_of_lt_of_le (decVal_lt _ rfl h2) (Nat.pow_le_pow_right (by decide) (by omega))
  ·exact Nat.pow_pos (by decide)
theorem fix_tt {s n : Nat} (h : 0 < n) : fixS true s n = -(s : Int) - 1 ∧ fixN true n = 1000000000 - (n : Int) := by simp [fixS,fixN,h]
theorem fix_t0 {s : Nat} : fixS true s 0 = -(s : Int) ∧ fixN true 0 = 0 := by simp [fixS,fixN]
theorem fix_f {s n : Nat} : fixS false s n = (s : Int) ∧ fixN false n = (n : Int) := by simp [fixS,fixN]
theorem sne_t2 {a b : ByteArray} (h : ¬ a = b) : (!(a.toList == b.toList)) = true := by rw [seq_f h]; rfl
theorem sne_f2 {a b : ByteArray} (h : a = b) : (!(a.toList == b.toList)) = false := by rw [seq_t h]; rfl
theorem restOf_len (l : List UInt8) : (restOf l).length ≤ l.length := by
 unfold restOf
 split
 ·simp
 ·exact Nat.le_refl _
end Go.Creel
namespace Go.Proofs.YtaffgndickdbiaaGreatDoor
open Go.Creel Go.RowKit
set_option maxRecDepth 100000 in
set_option maxHeartbeats 4000000 in
theorem StampParse_any (l : List UInt8) (w : World) (hl : l.length ≤ maxLen) (hT : Pow10 w) :
 Calls Tryz.prog 123 #[.string (ofL l)] w fun e w'=>e = .returned (.tuple #[.int .i64 (timeAns l (rawP l)).1,.int .i64 (timeAns l (rawP l)).2.1,.int .i64 (timeAns l (rawP l)).2.2])/\Below w.heap.size w w':=by
 have HT:=Lib.hid hT
 have HP:=Lib.hid (fun w=>CutPre_any l w)
 have hrl:(restOf l).length<=maxLen:=Nat.le_trans (restOf_len l) hl
 have HC:=Lib.hid (fun w=>Cut_any (restOf l) w hrl)
 clear hT
 unfold maxLen at hl hrl
 by_cases h:dotAt (restOf l)<(restOf l).length
 ·have HR:=Lib.hid (show rawP l=⟨belowOf l,(digitsP ((restOf l).take (dotAt (restOf l))) 13).1,(digitsP (partPad ((restOf l).drop (dotAt (restOf l)+1))) 9).1,(digitsP ((restOf l).take (dotAt (restOf l))) 13).2&&(digitsP (partPad ((restOf l).drop (dotAt (restOf l)+1))) 9).2⟩ from if_pos h)
  simp only [if_pos h] at HC
  have hd1:(ofL ((restOf l).take (dotAt (restOf l)))).size<=maxLen:=by rw [ofL_size,List.length_take];unfold maxLen;omega
  have HD1:=Lib.hid (fun w=>Digits_any (ofL ((restOf l).take (dotAt (restOf l)))) 13 w hd1 (by omega))
  rw [ofL_data] at HD1
  have hpl:((restOf l).drop (dotAt (restOf l)+1)).length<=9223372036854775806:=by rw [List.length_drop];omega
  have hk1:=digitsP_lt ((restOf l).take (dotAt (restOf l))) 13
  have hk2:=digitsP_lt (partPad ((restOf l).drop (dotAt (restOf l)+1))) 9
  generalize (restOf l).drop (dotAt (restOf l)+1)=pt at *
  generalize ofL ((restOf l).take (dotAt (restOf l)))=s1 at *
  have HPD:=Lib.hid (show ofL pt++ofL (List.replicate (9-pt.length) (48:UInt8))=ofL (partPad pt) by rw [ofL_append];rfl)
  have hpp:(ofL (partPad pt)).size<=maxLen:=by rw [ofL_size];unfold partPad maxLen;rw [List.length_append,List.length_replicate];omega
  have HD2:=Lib.hid (fun w=>Digits_any (ofL (partPad pt)) 9 w hpp (by omega))
  rw [ofL_data] at HD2
  have HRP:=Lib.hid (fun (w:World) (c:Int) (h0:0<=c) (h1:c<=1000000)=>Repeat48_any c w h0 h1)
  have hps:(ofL pt).size=pt.length:=ofL_size pt
  have hpr:(ofL (List.replicate (9-pt.length) (48:UInt8))).size=9-pt.length:=by rw [ofL_size,List.length_replicate]
  have hmax:(max (0:Int) (9-(pt.length:Int))).toNat=9-pt.length:=by omega
  generalize digitsP ((restOf l).take (dotAt (restOf l))) 13=g1 at *
  generalize digitsP (partPad pt) 9=g2 at *
  obtain ⟨sec,ok1⟩:=g1
  obtain ⟨nano,ok2⟩:=g2
  simp only at hk1 hk2 HR HD1 HD2
  have hk1':sec<10000000000000:=hk1
  have hk2':nano<1000000000:=hk2
  clear hk1 hk2 h hd1 hrl hl
  generalize ofL (restOf l)=sr at *
  generalize hsl:ofL l=s at *
  have HSL:=Lib.hid hsl
  clear hsl
  generalize hbe:belowOf l=be at *
  go_enter Tryz.func123,Tryz.ntmps123
  go_wp2_with fail
  refine (HP.out _).mono ?_
  rintro e w1 ⟨rfl,rfl⟩
  go_wp2_with fail
  refine (HC.out _).mono ?_
  rintro e w1 ⟨rfl,nd,rfl⟩
  go_wp2_with fail
  refine (HD1.out _).mono ?_
  rintro e w1 ⟨rfl,rfl⟩
  go_wp2_with fail
  refine (HRP.out _ _ (by omega) (by omega)).mono ?_
  rintro e w1 ⟨rfl,hb⟩
  have HB0:=Lib.hid ((below_draws w.heap.size w nd).trans hb)
  clear hb
  rw [hmax]
  go_wp2_with fail
  rw [HPD.out]
  refine (HD2.out _).mono ?_
  rintro e w1' ⟨rfl,rfl⟩
  clear HD1 HD2 HP HC HRP HPD hps hpr hmax hpp hpl
  cases ok1 with
  | false =>
    have HF:=Lib.hid (timeAns_no (l:=l) (r:=rawP l) (by rw [HR.out];rfl))
    go_wp2
    go_ret3
    exact ⟨ret_iii HF.out,HB0.out⟩
  | true =>
    cases ok2 with
    | false =>
      have HF:=Lib.hid (timeAns_no (l:=l) (r:=rawP l) (by rw [HR.out];rfl))
      go_wp2
      go_ret3
      exact ⟨ret_iii HF.out,HB0.out⟩
    | true =>
      have HF:=Lib.hid (show timeAns l (rawP l)=finA l (fixS be sec nano) (fixN be nano) by rw [timeAns_ok (by rw [HR.out];rfl),HR.out])
      clear hbe
      cases be with
      | true =>
        by_cases hn:0<nano
        ·obtain ⟨f1,f2⟩:=fix_tt (s:=sec) hn
         rw [f1,f2] at HF
         clear f1 f2
         have HFIN:=Lib.hid HF.out
         have HTX:=Lib.hid (fun w h=>StampText_any (-(sec:Int)-1) (1000000000-(nano:Int)) w (by unfold i64;omega) (by unfold i64;omega) h)
         generalize htx:timeText (-(sec:Int)-1) (1000000000-(nano:Int))=p at *
         obtain ⟨t,e0⟩:=p
         have HTE:=Lib.hid htx
         clear htx
         go_wp2_with fail
         refine (HTX.out _ (HT.out.below HB0.out)).mono ?_
         rintro e w2 ⟨rfl,hb⟩
         have HB:=Lib.hid (HB0.out.trans (hb.mono HB0.out.size))
         clear hb
         by_cases he:e0=0
         ·have hn0:(e0 != 0)=false:=by rw [he];rfl
          by_cases ht:t=s
          ·have HFF:=Lib.hid (HFIN.out.trans (finA_pos HSL.out HTE.out he ht))
           have hq:=sne_f2 ht
           clear he ht
           go_wp2
           go_ret3
           exact ⟨ret_iii HFF.out,HB.out⟩
          ·have HFF:=Lib.hid (HFIN.out.trans (finA_text HSL.out HTE.out ht))
           have hq:=sne_t2 ht
           clear he ht
           go_wp2
           go_ret3
           exact ⟨ret_iii HFF.out,HB.out⟩
         ·have hn0:(e0 != 0)=true:=by rw [bne_iff_ne];exact he
          have HFF:=Lib.hid (HFIN.out.trans (finA_err HTE.out he))
          clear he
          go_wp2
          go_ret3
          exact ⟨ret_iii HFF.out,HB.out⟩
        ·obtain rfl:nano=0:=by omega
         obtain ⟨f1,f2⟩:=fix_t0 (s:=sec)
         rw [f1,f2] at HF
         clear f1 f2
         have HFIN:=Lib.hid HF.out
         have HTX:=Lib.hid (fun w h=>StampText_any (-(sec:Int)) (0) w (by unfold i64;omega) (by unfold i64;omega) h)
         generalize htx:timeText (-(sec:Int)) (0)=p at *
         obtain ⟨t,e0⟩:=p
         have HTE:=Lib.hid htx
         clear htx
         go_wp2_with fail
         refine (HTX.out _ (HT.out.below HB0.out)).mono ?_
         rintro e w2 ⟨rfl,hb⟩
         have HB:=Lib.hid (HB0.out.trans (hb.mono HB0.out.size))
         clear hb
         by_cases he:e0=0
         ·have hn0:(e0 != 0)=false:=by rw [he];rfl
          by_cases ht:t=s
          ·have HFF:=Lib.hid (HFIN.out.trans (finA_pos HSL.out HTE.out he ht))
           have hq:=sne_f2 ht
           clear he ht
           go_wp2
           go_ret3
           exact ⟨ret_iii HFF.out,HB.out⟩
          ·have HFF:=Lib.hid (HFIN.out.trans (finA_text HSL.out HTE.out ht))
           have hq:=sne_t2 ht
           clear he ht
           go_wp2
           go_ret3
           exact ⟨ret_iii HFF.out,HB.out⟩
         ·have hn0:(e0 != 0)=true:=by rw [bne_iff_ne];exact he
          have HFF:=Lib.hid (HFIN.out.trans (finA_err HTE.out he))
          clear he
          go_wp2
          go_ret3
          exact ⟨ret_iii HFF.out,HB.out⟩
      | false =>
        obtain ⟨f1,f2⟩:=fix_f (s:=sec) (n:=nano)
        rw [f1,f2] at HF
        clear f1 f2
        have HFIN:=Lib.hid HF.out
        have HTX:=Lib.hid (fun w h=>StampText_any ((sec:Int)) ((nano:Int)) w (by unfold i64;omega) (by unfold i64;omega) h)
        generalize htx:timeText ((sec:Int)) ((nano:Int))=p at *
        obtain ⟨t,e0⟩:=p
        have HTE:=Lib.hid htx
        clear htx
        go_wp2_with fail
        refine (HTX.out _ (HT.out.below HB0.out)).mono ?_
        rintro e w2 ⟨rfl,hb⟩
        have HB:=Lib.hid (HB0.out.trans (hb.mono HB0.out.size))
        clear hb
        by_cases he:e0=0
        ·have hn0:(e0 != 0)=false:=by rw [he];rfl
         by_cases ht:t=s
         ·have HFF:=Lib.hid (HFIN.out.trans (finA_pos HSL.out HTE.out he ht))
          have hq:=sne_f2 ht
          clear he ht
          go_wp2
          go_ret3
          exact ⟨ret_iii HFF.out,HB.out⟩
         ·have HFF:=Lib.hid (HFIN.out.trans (finA_text HSL.out HTE.out ht))
          have hq:=sne_t2 ht
          clear he ht
          go_wp2
          go_ret3
          exact ⟨ret_iii HFF.out,HB.out⟩
        ·have hn0:(e0 != 0)=true:=by rw [bne_iff_ne];exact he
         have HFF:=Lib.hid (HFIN.out.trans (finA_err HTE.out he))
         clear he
         go_wp2
         go_ret3
         exact ⟨ret_iii HFF.out,HB.out⟩
 ·have HR:=Lib.hid (show rawP l=⟨belowOf l,(digitsP (restOf l) 13).1,0,(digitsP (restOf l) 13).2⟩ from if_neg h)
  simp only [if_neg h] at HC
  have hd1:(ofL (restOf l)).size<=maxLen:=by rw [ofL_size];unfold maxLen;omega
  have HD1:=Lib.hid (fun w=>Digits_any (ofL (restOf l)) 13 w hd1 (by omega))
  rw [ofL_data] at HD1
  have hk1:=digitsP_lt (restOf l) 13
  generalize digitsP (restOf l) 13=g1 at *
  obtain ⟨sec,ok1⟩:=g1
  simp only at hk1 HR HD1
  have hk1':sec<10000000000000:=hk1
  clear hk1 h hd1 hrl hl
  generalize ofL (restOf l)=sr at *
  generalize hsl:ofL l=s at *
  have HSL:=Lib.hid hsl
  clear hsl
  generalize hbe:belowOf l=be at *
  go_enter Tryz.func123,Tryz.ntmps123
  go_wp2_with fail
  refine (HP.out _).mono ?_
  rintro e w1 ⟨rfl,rfl⟩
  go_wp2_with fail
  refine (HC.out _).mono ?_
  rintro e w1 ⟨rfl,nd,rfl⟩
  have HB0:=Lib.hid (below_draws w.heap.size w nd)
  go_wp2_with fail
  refine (HD1.out _).mono ?_
  rintro e w1 ⟨rfl,rfl⟩
  clear HD1 HP HC
  cases ok1 with
  | false =>
    have HF:=Lib.hid (timeAns_no (l:=l) (r:=rawP l) (by rw [HR.out]))
    go_wp2
    go_ret3
    exact ⟨ret_iii HF.out,HB0.out⟩
  | true =>
    have HF:=Lib.hid (show timeAns l (rawP l)=finA l (fixS be sec 0) (fixN be 0) by rw [timeAns_ok (by rw [HR.out]),HR.out])
    clear hbe
    cases be with
    | true =>
      obtain ⟨f1,f2⟩:=fix_t0 (s:=sec)
      rw [f1,f2] at HF
      clear f1 f2
      have HFIN:=Lib.hid HF.out
      have HTX:=Lib.hid (fun w h=>StampText_any (-(sec:Int)) (0) w (by unfold i64;omega) (by unfold i64;omega) h)
      generalize htx:timeText (-(sec:Int)) (0)=p at *
      obtain ⟨t,e0⟩:=p
      have HTE:=Lib.hid htx
      clear htx
      go_wp2_with fail
      refine (HTX.out _ (HT.out.below HB0.out)).mono ?_
      rintro e w2 ⟨rfl,hb⟩
      have HB:=Lib.hid (HB0.out.trans (hb.mono HB0.out.size))
      clear hb
      by_cases he:e0=0
      ·have hn0:(e0 != 0)=false:=by rw [he];rfl
       by_cases ht:t=s
       ·have HFF:=Lib.hid (HFIN.out.trans (finA_pos HSL.out HTE.out he ht))
        have hq:=sne_f2 ht
        clear he ht
        go_wp2
        go_ret3
        exact ⟨ret_iii HFF.out,HB.out⟩
       ·have HFF:=Lib.hid (HFIN.out.trans (finA_text HSL.out HTE.out ht))
        have hq:=sne_t2 ht
        clear he ht
        go_wp2
        go_ret3
        exact ⟨ret_iii HFF.out,HB.out⟩
      ·have hn0:(e0 != 0)=true:=by rw [bne_iff_ne];exact he
       have HFF:=Lib.hid (HFIN.out.trans (finA_err HTE.out he))
       clear he
       go_wp2
       go_ret3
       exact ⟨ret_iii HFF.out,HB.out⟩
    | false =>
      obtain ⟨f1,f2⟩:=fix_f (s:=sec) (n:=0)
      rw [f1,f2] at HF
      clear f1 f2
      have HFIN:=Lib.hid HF.out
      have HTX:=Lib.hid (fun w h=>StampText_any ((sec:Int)) (0) w (by unfold i64;omega) (by unfold i64;omega) h)
      generalize htx:timeText ((sec:Int)) (0)=p at *
      obtain ⟨t,e0⟩:=p
      have HTE:=Lib.hid htx
      clear htx
      go_wp2_with fail
      refine (HTX.out _ (HT.out.below HB0.out)).mono ?_
      rintro e w2 ⟨rfl,hb⟩
      have HB:=Lib.hid (HB0.out.trans (hb.mono HB0.out.size))
      clear hb
      by_cases he:e0=0
      ·have hn0:(e0 != 0)=false:=by rw [he];rfl
       by_cases ht:t=s
       ·have HFF:=Lib.hid (HFIN.out.trans (finA_pos HSL.out HTE.out he ht))
        have hq:=sne_f2 ht
        clear he ht
        go_wp2
        go_ret3
        exact ⟨ret_iii HFF.out,HB.out⟩
       ·have HFF:=Lib.hid (HFIN.out.trans (finA_text HSL.out HTE.out ht))
        have hq:=sne_t2 ht
        clear he ht
        go_wp2
        go_ret3
        exact ⟨ret_iii HFF.out,HB.out⟩
      ·have hn0:(e0 != 0)=true:=by rw [bne_iff_ne];exact he
       have HFF:=Lib.hid (HFIN.out.trans (finA_err HTE.out he))
       clear he
       go_wp2
       go_ret3
       exact ⟨ret_iii HFF.out,HB.out⟩
end Go.Proofs.YtaffgndickdbiaaGreatDoor
