/- A part of the proof. -/
import Derived.Test.YtaffgndickdbiaaGreatDoorV22
set_option linter.unusedVariables false
set_option linter.unusedSimpArgs false
set_option maxRecDepth 100000
set_option maxHeartbeats 4000000
namespace Go.Creel
open Go.RowKit
def D9i (l : List UInt8) (a n : Int) : Int × Int × Int := if A3c a n = (ofL l,0) then (a,n,0) else (0,0,3)
theorem C8g {l : List UInt8} {r : Raw} (h : r.ok = false) : A7e l r = (0,0,3) := by unfold A7e; rw [if_neg (by rw [h]; simp)]
theorem A6o {l : List UInt8} {r : Raw} (h : r.ok = true) : A7e l r = D9i l (C4j r.below r.second r.nano) (C5j r.below r.nano) := by
 unfold A7e D9i;by_cases ht:A3c (C4j r.below r.second r.nano) (C5j r.below r.nano)=(ofL l,0)
 ·rw [if_pos ⟨h,ht⟩,if_pos ht]
 ·rw [if_neg (fun e=>ht e.2),if_neg ht]
theorem A2q {l : List UInt8} {a n e : Int} {t s : ByteArray} (hs : ofL l = s) (h : A3c a n = (t,e)) (he : e = 0) (ht : t = s) : D9i l a n = (a,n,0) := by
 unfold D9i;rw [h,he,ht,hs,if_pos rfl]
theorem A3q {l : List UInt8} {a n e : Int} {t : ByteArray} (h : A3c a n = (t,e)) (he : ¬ e = 0) : D9i l a n = (0,0,3) := by
 unfold D9i;rw [h,if_neg (fun q=>he (congrArg Prod.snd q))]
theorem A6m {l : List UInt8} {a n e : Int} {t s : ByteArray} (hs : ofL l = s) (h : A3c a n = (t,e)) (ht : ¬ t = s) : D9i l a n = (0,0,3) := by
 unfold D9i;rw [h,hs,if_neg (fun q=>ht (congrArg Prod.fst q))]
theorem C1k (l : List UInt8) (m : Nat) : (A2i l m).1 < 10 ^ m := by
 unfold A2i;split
 ·exact Nat.pow_pos (by decide)
 ·split
  ·rename_i h1 h2
   exact Nat.lt_of_lt_of_le (B9g _ rfl h2) (Nat.pow_le_pow_right (by decide) (by omega))
  ·exact Nat.pow_pos (by decide)
theorem F7v {s n : Nat} (h : 0 < n) : C4j true s n = -(s : Int) - 1 ∧ C5j true n = 1000000000 - (n : Int) := by simp [C4j,C5j,h]
theorem D1u {s : Nat} : C4j true s 0 = -(s : Int) ∧ C5j true 0 = 0 := by simp [C4j,C5j]
theorem D2u {s n : Nat} : C4j false s n = (s : Int) ∧ C5j false n = (n : Int) := by simp [C4j,C5j]
theorem B6f {a b : ByteArray} (h : ¬ a = b) : (!(a.toList == b.toList)) = true := by rw [A5w h]; rfl
theorem B7f {a b : ByteArray} (h : a = b) : (!(a.toList == b.toList)) = false := by rw [B3n h]; rfl
theorem E6q (l : List UInt8) : (A7c l).length ≤ l.length := by
 unfold A7c;split
 ·simp
 ·exact Nat.le_refl _
end Go.Creel
namespace Go.Proofs.YtaffgndickdbiaaGreatDoor
open Go.Creel Go.RowKit
theorem C3z (l : List UInt8) (w : World) (hl : l.length ≤ maxLen) (hT : A7m w) :
 Calls Tryz.prog 123 #[.string (ofL l)] w fun e w'=>e=.returned (.tuple #[.int .i64 (A7e l (B3v l)).1,.int .i64 (A7e l (B3v l)).2.1,.int .i64 (A7e l (B3v l)).2.2])/\Below w.heap.size w w':=by
 have HT:=Hi hT;have HP:=Hi (fun w=>E6x l w);have hrl:(A7c l).length<=maxLen:=Nat.le_trans (E6q l) hl;have HC:=Hi (fun w=>Cut_any (A7c l) w hrl);clear hT;unfold maxLen at hl hrl;by_cases h:A4k (A7c l)<(A7c l).length
 ·have HR:=Hi (show B3v l=⟨A6q l,(A2i ((A7c l).take (A4k (A7c l))) 13).1,(A2i (B0c ((A7c l).drop (A4k (A7c l)+1))) 9).1,(A2i ((A7c l).take (A4k (A7c l))) 13).2&&(A2i (B0c ((A7c l).drop (A4k (A7c l)+1))) 9).2⟩ from if_pos h);simp only [if_pos h] at HC;have hd1:(ofL ((A7c l).take (A4k (A7c l)))).size<=maxLen:=by rw [A7a,List.length_take];unfold maxLen;omega
  have HD1:=Hi (fun w=>C7k (ofL ((A7c l).take (A4k (A7c l)))) 13 w hd1 (by omega));rw [A0d] at HD1;have hpl:((A7c l).drop (A4k (A7c l)+1)).length<=9223372036854775806:=by rw [List.length_drop];omega
  have hk1:=C1k ((A7c l).take (A4k (A7c l))) 13;have hk2:=C1k (B0c ((A7c l).drop (A4k (A7c l)+1))) 9;generalize (A7c l).drop (A4k (A7c l)+1)=pt at *;generalize ofL ((A7c l).take (A4k (A7c l)))=s1 at *;have HPD:=Hi (show ofL pt++ofL (List.replicate (9-pt.length) (48:UInt8))=ofL (B0c pt) by rw [A5k];rfl);have hpp:(ofL (B0c pt)).size<=maxLen:=by rw [A7a];unfold B0c maxLen;rw [List.length_append,List.length_replicate];omega
  have HD2:=Hi (fun w=>C7k (ofL (B0c pt)) 9 w hpp (by omega));rw [A0d] at HD2;have HRP:=Hi (fun (w:World) (c:Int) (h0:0<=c) (h1:c<=1000000)=>B3u c w h0 h1);have hps:(ofL pt).size=pt.length:=A7a pt;have hpr:(ofL (List.replicate (9-pt.length) (48:UInt8))).size=9-pt.length:=by rw [A7a,List.length_replicate]
  have hmax:(max (0:Int) (9-(pt.length:Int))).toNat=9-pt.length:=by omega
  generalize A2i ((A7c l).take (A4k (A7c l))) 13=g1 at *;generalize A2i (B0c pt) 9=g2 at *;obtain ⟨sec,ok1⟩:=g1;obtain ⟨nano,ok2⟩:=g2;simp only at hk1 hk2 HR HD1 HD2;have hk1':sec<10000000000000:=hk1;have hk2':nano<1000000000:=hk2;clear hk1 hk2 h hd1 hrl hl;generalize ofL (A7c l)=sr at *;generalize hsl:ofL l=s at *;have HSL:=Hi hsl;clear hsl;generalize hbe:A6q l=be at *;go_enter Tryz.func123,Tryz.ntmps123;go_wp2_with fail
  refine (HP.out _).mono ?_;rintro e w1 ⟨rfl,rfl⟩;go_wp2_with fail
  refine (HC.out _).mono ?_;rintro e w1 ⟨rfl,nd,rfl⟩;go_wp2_with fail
  refine (HD1.out _).mono ?_;rintro e w1 ⟨rfl,rfl⟩;go_wp2_with fail
  refine (HRP.out _ _ (by omega) (by omega)).mono ?_;rintro e w1 ⟨rfl,hb⟩;have HB0:=Hi ((A6a w.heap.size w nd).trans hb);clear hb;rw [hmax];go_wp2_with fail
  rw [HPD.out];refine (HD2.out _).mono ?_;rintro e w1' ⟨rfl,rfl⟩;clear HD1 HD2 HP HC HRP HPD hps hpr hmax hpp hpl;cases ok1 with
  | false =>
    have HF:=Hi (C8g (l:=l) (r:=B3v l) (by rw [HR.out];rfl));go_wp2
    go_ret3
    exact ⟨A5d HF.out,HB0.out⟩
  | true =>
    cases ok2 with
    | false =>
      have HF:=Hi (C8g (l:=l) (r:=B3v l) (by rw [HR.out];rfl));go_wp2
      go_ret3
      exact ⟨A5d HF.out,HB0.out⟩
    | true =>
      have HF:=Hi (show A7e l (B3v l)=D9i l (C4j be sec nano) (C5j be nano) by rw [A6o (by rw [HR.out];rfl),HR.out]);clear hbe;cases be with
      | true =>
        by_cases hn:0<nano
        ·obtain ⟨f1,f2⟩:=F7v (s:=sec) hn;rw [f1,f2] at HF;clear f1 f2;have HFIN:=Hi HF.out;have HTX:=Hi (fun w h=>A1t (-(sec:Int)-1) (1000000000-(nano:Int)) w (by unfold i64;omega) (by unfold i64;omega) h);generalize htx:A3c (-(sec:Int)-1) (1000000000-(nano:Int))=p at *;obtain ⟨t,e0⟩:=p;have HTE:=Hi htx;clear htx;go_wp2_with fail
         refine (HTX.out _ (HT.out.below HB0.out)).mono ?_;rintro e w2 ⟨rfl,hb⟩;have HB:=Hi (HB0.out.trans (hb.mono HB0.out.size));clear hb;by_cases he:e0=0
         ·have hn0:(e0 != 0)=false:=by rw [he];rfl
          by_cases ht:t=s
          ·have HFF:=Hi (HFIN.out.trans (A2q HSL.out HTE.out he ht));have hq:=B7f ht;clear he ht;go_wp2
           go_ret3
           exact ⟨A5d HFF.out,HB.out⟩
          ·have HFF:=Hi (HFIN.out.trans (A6m HSL.out HTE.out ht));have hq:=B6f ht;clear he ht;go_wp2
           go_ret3
           exact ⟨A5d HFF.out,HB.out⟩
         ·have hn0:(e0 != 0)=true:=by rw [bne_iff_ne];exact he
          have HFF:=Hi (HFIN.out.trans (A3q HTE.out he));clear he;go_wp2
          go_ret3
          exact ⟨A5d HFF.out,HB.out⟩
        ·obtain rfl:nano=0:=by omega
         obtain ⟨f1,f2⟩:=D1u (s:=sec);rw [f1,f2] at HF;clear f1 f2;have HFIN:=Hi HF.out;have HTX:=Hi (fun w h=>A1t (-(sec:Int)) (0) w (by unfold i64;omega) (by unfold i64;omega) h);generalize htx:A3c (-(sec:Int)) (0)=p at *;obtain ⟨t,e0⟩:=p;have HTE:=Hi htx;clear htx;go_wp2_with fail
         refine (HTX.out _ (HT.out.below HB0.out)).mono ?_;rintro e w2 ⟨rfl,hb⟩;have HB:=Hi (HB0.out.trans (hb.mono HB0.out.size));clear hb;by_cases he:e0=0
         ·have hn0:(e0 != 0)=false:=by rw [he];rfl
          by_cases ht:t=s
          ·have HFF:=Hi (HFIN.out.trans (A2q HSL.out HTE.out he ht));have hq:=B7f ht;clear he ht;go_wp2
           go_ret3
           exact ⟨A5d HFF.out,HB.out⟩
          ·have HFF:=Hi (HFIN.out.trans (A6m HSL.out HTE.out ht));have hq:=B6f ht;clear he ht;go_wp2
           go_ret3
           exact ⟨A5d HFF.out,HB.out⟩
         ·have hn0:(e0 != 0)=true:=by rw [bne_iff_ne];exact he
          have HFF:=Hi (HFIN.out.trans (A3q HTE.out he));clear he;go_wp2
          go_ret3
          exact ⟨A5d HFF.out,HB.out⟩
      | false =>
        obtain ⟨f1,f2⟩:=D2u (s:=sec) (n:=nano);rw [f1,f2] at HF;clear f1 f2;have HFIN:=Hi HF.out;have HTX:=Hi (fun w h=>A1t ((sec:Int)) ((nano:Int)) w (by unfold i64;omega) (by unfold i64;omega) h);generalize htx:A3c ((sec:Int)) ((nano:Int))=p at *;obtain ⟨t,e0⟩:=p;have HTE:=Hi htx;clear htx;go_wp2_with fail
        refine (HTX.out _ (HT.out.below HB0.out)).mono ?_;rintro e w2 ⟨rfl,hb⟩;have HB:=Hi (HB0.out.trans (hb.mono HB0.out.size));clear hb;by_cases he:e0=0
        ·have hn0:(e0 != 0)=false:=by rw [he];rfl
         by_cases ht:t=s
         ·have HFF:=Hi (HFIN.out.trans (A2q HSL.out HTE.out he ht));have hq:=B7f ht;clear he ht;go_wp2
          go_ret3
          exact ⟨A5d HFF.out,HB.out⟩
         ·have HFF:=Hi (HFIN.out.trans (A6m HSL.out HTE.out ht));have hq:=B6f ht;clear he ht;go_wp2
          go_ret3
          exact ⟨A5d HFF.out,HB.out⟩
        ·have hn0:(e0 != 0)=true:=by rw [bne_iff_ne];exact he
         have HFF:=Hi (HFIN.out.trans (A3q HTE.out he));clear he;go_wp2
         go_ret3
         exact ⟨A5d HFF.out,HB.out⟩
 ·have HR:=Hi (show B3v l=⟨A6q l,(A2i (A7c l) 13).1,0,(A2i (A7c l) 13).2⟩ from if_neg h);simp only [if_neg h] at HC;have hd1:(ofL (A7c l)).size<=maxLen:=by rw [A7a];unfold maxLen;omega
  have HD1:=Hi (fun w=>C7k (ofL (A7c l)) 13 w hd1 (by omega));rw [A0d] at HD1;have hk1:=C1k (A7c l) 13;generalize A2i (A7c l) 13=g1 at *;obtain ⟨sec,ok1⟩:=g1;simp only at hk1 HR HD1;have hk1':sec<10000000000000:=hk1;clear hk1 h hd1 hrl hl;generalize ofL (A7c l)=sr at *;generalize hsl:ofL l=s at *;have HSL:=Hi hsl;clear hsl;generalize hbe:A6q l=be at *;go_enter Tryz.func123,Tryz.ntmps123;go_wp2_with fail
  refine (HP.out _).mono ?_;rintro e w1 ⟨rfl,rfl⟩;go_wp2_with fail
  refine (HC.out _).mono ?_;rintro e w1 ⟨rfl,nd,rfl⟩;have HB0:=Hi (A6a w.heap.size w nd);go_wp2_with fail
  refine (HD1.out _).mono ?_;rintro e w1 ⟨rfl,rfl⟩;clear HD1 HP HC;cases ok1 with
  | false =>
    have HF:=Hi (C8g (l:=l) (r:=B3v l) (by rw [HR.out]));go_wp2
    go_ret3
    exact ⟨A5d HF.out,HB0.out⟩
  | true =>
    have HF:=Hi (show A7e l (B3v l)=D9i l (C4j be sec 0) (C5j be 0) by rw [A6o (by rw [HR.out]),HR.out]);clear hbe;cases be with
    | true =>
      obtain ⟨f1,f2⟩:=D1u (s:=sec);rw [f1,f2] at HF;clear f1 f2;have HFIN:=Hi HF.out;have HTX:=Hi (fun w h=>A1t (-(sec:Int)) (0) w (by unfold i64;omega) (by unfold i64;omega) h);generalize htx:A3c (-(sec:Int)) (0)=p at *;obtain ⟨t,e0⟩:=p;have HTE:=Hi htx;clear htx;go_wp2_with fail
      refine (HTX.out _ (HT.out.below HB0.out)).mono ?_;rintro e w2 ⟨rfl,hb⟩;have HB:=Hi (HB0.out.trans (hb.mono HB0.out.size));clear hb;by_cases he:e0=0
      ·have hn0:(e0 != 0)=false:=by rw [he];rfl
       by_cases ht:t=s
       ·have HFF:=Hi (HFIN.out.trans (A2q HSL.out HTE.out he ht));have hq:=B7f ht;clear he ht;go_wp2
        go_ret3
        exact ⟨A5d HFF.out,HB.out⟩
       ·have HFF:=Hi (HFIN.out.trans (A6m HSL.out HTE.out ht));have hq:=B6f ht;clear he ht;go_wp2
        go_ret3
        exact ⟨A5d HFF.out,HB.out⟩
      ·have hn0:(e0 != 0)=true:=by rw [bne_iff_ne];exact he
       have HFF:=Hi (HFIN.out.trans (A3q HTE.out he));clear he;go_wp2
       go_ret3
       exact ⟨A5d HFF.out,HB.out⟩
    | false =>
      obtain ⟨f1,f2⟩:=D2u (s:=sec) (n:=0);rw [f1,f2] at HF;clear f1 f2;have HFIN:=Hi HF.out;have HTX:=Hi (fun w h=>A1t ((sec:Int)) (0) w (by unfold i64;omega) (by unfold i64;omega) h);generalize htx:A3c ((sec:Int)) (0)=p at *;obtain ⟨t,e0⟩:=p;have HTE:=Hi htx;clear htx;go_wp2_with fail
      refine (HTX.out _ (HT.out.below HB0.out)).mono ?_;rintro e w2 ⟨rfl,hb⟩;have HB:=Hi (HB0.out.trans (hb.mono HB0.out.size));clear hb;by_cases he:e0=0
      ·have hn0:(e0 != 0)=false:=by rw [he];rfl
       by_cases ht:t=s
       ·have HFF:=Hi (HFIN.out.trans (A2q HSL.out HTE.out he ht));have hq:=B7f ht;clear he ht;go_wp2
        go_ret3
        exact ⟨A5d HFF.out,HB.out⟩
       ·have HFF:=Hi (HFIN.out.trans (A6m HSL.out HTE.out ht));have hq:=B6f ht;clear he ht;go_wp2
        go_ret3
        exact ⟨A5d HFF.out,HB.out⟩
      ·have hn0:(e0 != 0)=true:=by rw [bne_iff_ne];exact he
       have HFF:=Hi (HFIN.out.trans (A3q HTE.out he));clear he;go_wp2
       go_ret3
       exact ⟨A5d HFF.out,HB.out⟩
end Go.Proofs.YtaffgndickdbiaaGreatDoor
