/- A part of the proof. -/
import Derived.Test.YtaffgndickdbiaaGreatDoorV39
set_option linter.unusedVariables false
set_option linter.unusedSimpArgs false
set_option maxRecDepth 100000
set_option maxHeartbeats 4000000
namespace Go.Creel
open Go.RowKit
def C6k (l : List Nod) (k : Nat) (m : List (Int × Value)) : Prop := ∀ s,s ≠ 0 → A2v s m = (A8x l k s).map fun j => (nk l j).val
theorem C6k.start (l : List Nod) : C6k l 0 [] := fun s _ => rfl
theorem C6k.skip {l : List Nod} {k : Nat} {m : List (Int × Value)} (h : C6k l k m) (h0 : (nk l k).same = 0) : C6k l (k + 1) m := by
 intro s hs;rw [h s hs,B6e,if_neg (fun e=>hs (e.symm.trans h0)),Option.or_none]
theorem C6k.has {l : List Nod} {k j : Nat} {m : List (Int × Value)} (h : C6k l k m) (hj : A8x l k (nk l k).same = some j) : C6k l (k + 1) m := by
 intro s hs;rw [h s hs,B6e];by_cases e:(nk l k).same=s
 ·rw [<-e,hj];rfl
 ·rw [if_neg e,Option.or_none]
theorem C6k.put {l : List Nod} {k : Nat} {m : List (Int × Value)} (h : C6k l k m) (h0 : (nk l k).same ≠ 0) (hj : A8x l k (nk l k).same = none) : C6k l (k + 1) (A6f (nk l k).same (nk l k).val m) := by
 intro s hs;rw [B4h,B6e];by_cases e:s=(nk l k).same
 ·rw [if_pos e,e,hj,if_pos rfl];rfl
 ·rw [if_neg e,if_neg (fun h=>e h.symm),Option.or_none,h s hs]
theorem C3g {l : List Nod} {k : Nat} (hz : ∀ j,j < k → A9k l j = 0) (h : A9k l k = 0) : ∀ j,j < k + 1 → A9k l j = 0 := fun j hj => by
 by_cases e:j=k
 ·rw [e];exact h
 ·exact hz j (by omega)
theorem F4o (l : List Nod) (q : Nat) : decide (0 ≤ B7b (A8a (nk l q).path) (A8a (nk l (q + 1)).path)) = C0a l (q + 1) := by
 rw [<-F0c];rcases B9z (A8a (nk l q).path) (A8a (nk l (q+1)).path) with h|h|h<;>rw [h]<;>rfl
theorem B1f {x y : Nod} (h : x.bare = y.bare) : x.path = y.path ∧ x.kind = y.kind ∧ x.same = y.same ∧ x.target = y.target ∧ x.mt = y.mt ∧ x.data = y.data := by
 unfold Nod.bare at h;simp only [Nod.mk.injEq,and_true,true_and] at h;exact h
theorem D4j {l m : List Nod} (h : l.map Nod.bare = m.map Nod.bare) {k : Nat} (hk : k < l.length) : (nk l k).bare = (nk m k).bare := by
 have hl:l.length=m.length:=by simpa using congrArg List.length h
 have h2:(l.map Nod.bare)[k]?=(m.map Nod.bare)[k]?:=by rw [h]
 rw [List.getElem?_map,List.getElem?_map,List.getElem?_eq_getElem hk,List.getElem?_eq_getElem (by omega)] at h2;rw [A5m hk,A5m (by omega)];simpa using h2
theorem A5i {l m : List Nod} (h : l.map Nod.bare = m.map Nod.bare) : l.length = m.length := by simpa using congrArg List.length h
end Go.Creel
namespace Go.Proofs.YtaffgndickdbiaaGreatDoor
open Go.Creel Go.RowKit
theorem D1s (x : Nod) (w : World) (hM : A1n w) (h : x.Ok maxLen w) : Calls Tryz.prog 134 #[x.val] w fun e w' => e = .returned (.int .i64 (A6c x)) ∧ Below w.heap.size w w' :=
 D6j x w hM h.path h.target h.mt (by obtain ⟨_,_,_,_,_,h,_⟩:=h.data;exact h) h.kind h.same lr
theorem D4w (b off cap : Nat) (l : List Nod) (w : World) (hM : A1n w) (hpos : 0 < l.length) (hle : l.length ≤ cap) (hm : cap ≤ maxLen) (hc : A5p w b off l) (ho : ∀ i,i < l.length → (nk l i).Ok maxLen w) :
 Calls Tryz.prog 74 #[.slice (some ⟨b,off,none⟩) l.length cap] w fun e w'=>e=.returned (.int .i64 (A0a l))/\Below w.heap.size w w':=by
 have hm':=hm;unfold maxLen at hm;have HC:=Hi hc;have HO:=Hi ho;have HM:=Hi hM;have HCAP:=Hi hm';clear hc ho hm' hM;by_cases hmany:40<l.length
 ·have HF:=Hi (A7t hmany);go_enter Tryz.func74,Tryz.ntmps74;go_wp2;go_ret;exact ⟨A4e HF.out,Below.refl _ _⟩
 have hfew:l.length<=40:=by omega
 clear hmany;have HMS:=Hi (A0i.made (fun n:Int=>Value.int .i64 n) w);have HMB:=Hi ((Below.refl w.heap.size w).alloc lr (.map #[] 0));have hmm := @run_makeMap Tryz.prog;go_enter Tryz.func74,Tryz.ntmps74;go_wp2;clear hmm;generalize hmb:w.heap.size=mb at HMS;have HMBE:=Hi hmb;go_loopw [4,5,6,7,8,9,10,11,18] (fun _ _ _ _ _ _ _ _ i wr=>∃ (k:Nat) (m:List (Int×Value)),k<=l.length/\i=.int .i64 k/\Hid (∀ j,j<k->A9k l j=0)/\Hid (Below w.heap.size w wr)/\Hid (A0i (fun n:Int=>Value.int .i64 n) wr mb m)/\Hid (C6k l k m)) (fun _ _ _ _ _ _ _ _ i _=>l.length-(intOf i).toNat)
 case atStart=>exact ⟨0,[],by omega,rfl,Hi fun j hj=>absurd hj (by omega),HMB,HMS,Hi (C6k.start l)⟩
 case round =>
  obtain ⟨k,m,hk,rfl,HZ,HB,HMI,HFI⟩:=hrel;by_cases hlt:k<l.length
  ·obtain ⟨h0,h1,h2,h3,h4,h5,h6,h7,h8,h9,h10,h11⟩:=(HC.out.below HB.out) k hlt;have HX:=Hi ((HO.out k hlt).below HB.out);have HAT:=Hi (fun e=>A4v (e:=e) hfew hlt HZ.out);have HMLT:=Hi HMI.out.lt;by_cases hA:A6c (nk l k)=0
   ·have HA:=Hi hA;clear hA;go_wp2_with fail
    have HBX:=Hi (A8t wr (nk l k) 99);refine (D1s _ _ (HM.out.below (HB.out.alloc HB.out.size _)) (HX.out.below ((Below.refl _ _).alloc lr _))).mono ?_;rintro e w1 ⟨rfl,hb⟩;have HB1:=Hi ((HB.out.alloc HB.out.size _).trans (hb.mono (by simp;exact Nat.le_succ_of_le HB.out.size)));have HBX1:=Hi (HBX.out.below hb);have HM1:=Hi (HMI.out.below (((Below.refl _ _).alloc lr _).trans (hb.mono (by simp))) HMLT.out);have HMLT1:=Hi HM1.out.lt;rw [HA.out];clear hb h0 h1 h2 h3 h4 h5 h6 h7 h8 h9 h10 h11;generalize wr.heap.size=bx at *;obtain ⟨g0,g1,g2,g3,g4,g5,g6,g7,g8,g9,g10,g11⟩:=HBX1.out.zero;have HPZ:=Hi (fun (j:Nat) (hj:j<=k)=>show (nk l j).path.size<=1048576 from Nat.le_trans (B3o (by
     rcases Nat.lt_or_ge j k with h|h
     ·exact (B1e (HZ.out j h)).1
     ·rw [show j=k by omega];exact HA.out)) (by decide))
    go_upto_region 10 with fail
    go_cut [18,41] from 18 to 88 (fun c u wc=>c=.int .i64 k/\u=.bool (C0a l k)/\Hid (Below w1.heap.size w1 wc))
    case first =>
     by_cases hk0:k=0
     ·subst hk0;go_wp2;go_quiet (fail)
      go_wp2_with fail
      go_meet
      case rel=>exact ⟨rfl,rfl,Hi (A6a _ _ _)⟩
     ·obtain ⟨q,rfl⟩:∃ q,k=q+1:=⟨k-1,by omega⟩;obtain ⟨p0,_⟩:=(HC.out.below HB1.out) q (by omega);have hwq:IntKind.i64.wrap (q:Int)=(q:Int):=by rw [IntKind.wrap_i64];omega
      have hql:(q:Int)<(l.length:Int):=by omega
      go_wp2
      go_still_tail 11,(by kernel_rfl)
      go_wp2_with fail
      refine (C5b _ _ _ ((HM.out.below HB1.out).below (Below.refl _ _).drew) (HPZ.out q (by omega)) (HPZ.out (q+1) (by omega))).mono ?_;rintro e wc ⟨rfl,hb⟩;have HBC:=Hi ((Below.refl w1.heap.size w1).drew.trans hb);clear hb;go_wp2_with fail
      go_meet
      case rel=>exact ⟨rfl,congrArg Value.bool (F4o _ _),HBC⟩
    case rest =>
     obtain ⟨rfl,rfl,HBC⟩:=hcut;have HB2:=Hi (HB1.out.trans (HBC.out.mono HB1.out.size));have HBX2:=Hi (HBX1.out.below HBC.out);have HM2:=Hi (HM1.out.below HBC.out HMLT1.out);have HMLT2:=Hi HM2.out.lt;clear g0 g1 g2 g3 g4 g5 g6 g7 g8 g9 g10 g11;obtain ⟨g0,g1,g2,g3,g4,g5,g6,g7,g8,g9,g10,g11⟩:=HBX2.out.zero;by_cases hO:C1p l k
     ·have HOK:=Hi hO;rw [E6j hO];clear hO;have HUPC:=Hi (fun w:World=>F0w (nk l k).path w (Nat.le_trans (HPZ.out k lr) (by decide)));by_cases h0:(A2f (nk l k).path).size=0
      ·have he:=A8h h0;have HUO:=Hi (show E2y l k from fun e=>absurd h0 e);clear h0;go_upto_region 17 with (go_at_call 114;refine (HUPC.out _).mono ?_;rintro e w' ⟨rfl,rfl⟩)
       obtain ⟨wz,hwz⟩:∃ x:World,x=wc:=⟨_,rfl⟩;subst hwz;have HBZ:=HB2;have HXZ:=HBX2;have HMZ:=HM2;have hbz:=HXZ.out.lt;by_cases hs0:(nk l k).same=0
       ·have HS:=Hi (B7c HA.out HOK.out HUO.out (.inl hs0));have HFN:=Hi (HFI.out.skip hs0);have hsd:((nk l k).same==0)=true:=by rw [hs0];rfl
        clear hs0;go_wp2;go_roundw
        case rel=>exact ⟨k+1,m,by omega,by go_num,Hi (C3g HZ.out HS.out),HBZ,HMZ,HFN⟩
        case measure=>simp [intOf];omega
       ·have HS0:=Hi hs0;have hsd:((nk l k).same==0)=false:=by rw [beq_eq_false_iff_ne];exact hs0
        have HAS:=Hi (HFI.out _ hs0);have HMZL:=Hi HMZ.out.lt;have HWB:=Hi (show mb>=w.heap.size by rw [HMBE.out];exact Nat.le_refl _);clear hs0;cases hfst:A8x l k (nk l k).same with
        | none =>
          have HSN:=Hi (B7c HA.out HOK.out HUO.out (.inr fun j hj he=>absurd he (C3j hfst j hj)));have HFN:=Hi (HFI.out.put HS0.out hfst);have hlook:=HMZ.out.look_none A7q (t:=159) (k:=3) (e:=99) Tryz.underlying159 Tryz.underlying3 (by rw [HAS.out,hfst];rfl) (Tryz.zeroValue99 _) true;simp only [if_true] at hlook;have HB5:=Hi (HBZ.out.alloc HBZ.out.size (.cells #[.string ⟨#[]⟩,.int .i64 0,.int .i64 0,.string ⟨#[]⟩,.int .i64 0,.int .i64 0,.int .i64 0,.string ⟨#[]⟩,.string ⟨#[]⟩,.int .i64 0,.int .i64 0,.slice none 0 0] 99));obtain ⟨wp,hput,hmp,hgr⟩:=A0i.put (HMZ.out.below (w':=wz.alloc (.cells #[.string ⟨#[]⟩,.int .i64 0,.int .i64 0,.string ⟨#[]⟩,.int .i64 0,.int .i64 0,.int .i64 0,.string ⟨#[]⟩,.string ⟨#[]⟩,.int .i64 0,.int .i64 0,.slice none 0 0] 99)) ((Below.refl _ _).alloc lr _) HMZL.out) A7q (t:=159) (k:=3) (e:=99) Tryz.underlying159 Tryz.underlying3 (nk l k).same (nk l k).val;have HMP:=Hi hmp;have HB6:=Hi (HB5.out.grown hgr HB5.out.size (fun q hq=>by cases hq;exact HWB.out));clear hfst hmp hgr;go_wp2;go_roundw
          case rel=>exact ⟨k+1,_,by omega,by go_num,Hi (C3g HZ.out HSN.out),HB6,HMP,HFN⟩
          case measure=>simp [intOf];omega
        | some j =>
          obtain ⟨hj,hjs⟩:=B2m hfst;have hlook:=HMZ.out.look_some A7q (t:=159) (k:=3) (e:=99) Tryz.underlying159 Tryz.underlying3 (a:=(nk l k).same) (v:=(nk l j).val) (by rw [HAS.out,hfst];rfl) true;simp only [if_true] at hlook;have HFN:=Hi (HFI.out.has hfst);have HB5:=Hi (HBZ.out.alloc HBZ.out.size (.cells #[.string (nk l j).path,.int .i64 (nk l j).kind,.int .i64 (nk l j).same,.string (nk l j).target,.int .i64 (nk l j).mt.mode,.int .i64 (nk l j).mt.uid,.int .i64 (nk l j).mt.gid,.string (nk l j).mt.user,.string (nk l j).mt.group,.int .i64 (nk l j).mt.second,.int .i64 (nk l j).mt.nano,.slice (nk l j).da (nk l j).data.length (nk l j).dcap] 99));have HMZ5:=Hi (HMZ.out.below (w':=wz.alloc (.cells #[.string (nk l j).path,.int .i64 (nk l j).kind,.int .i64 (nk l j).same,.string (nk l j).target,.int .i64 (nk l j).mt.mode,.int .i64 (nk l j).mt.uid,.int .i64 (nk l j).mt.gid,.string (nk l j).mt.user,.string (nk l j).mt.group,.int .i64 (nk l j).mt.second,.int .i64 (nk l j).mt.nano,.slice (nk l j).da (nk l j).data.length (nk l j).dcap] 99)) ((Below.refl _ _).alloc lr _) HMZL.out);have HLK:=Hi (D4z (nk l j) (nk l k) (wz.alloc (.cells #[.string (nk l j).path,.int .i64 (nk l j).kind,.int .i64 (nk l j).same,.string (nk l j).target,.int .i64 (nk l j).mt.mode,.int .i64 (nk l j).mt.uid,.int .i64 (nk l j).mt.gid,.string (nk l j).mt.user,.string (nk l j).mt.group,.int .i64 (nk l j).mt.second,.int .i64 (nk l j).mt.nano,.slice (nk l j).da (nk l j).data.length (nk l j).dcap] 99)) ((HO.out j (by omega)).below HB5.out).data ((HO.out k hlt).below HB5.out).data);have HFST:=Hi hfst;have HJ:=Hi (And.intro hj hjs);clear hfst hjs hj;cases hlike:A5x (nk l j) (nk l k) with
          | true =>
            have HSN:=Hi (B7c HA.out HOK.out HUO.out (.inr (E4k HZ.out HS0.out HFST.out hlike)));rw [hlike] at HLK;clear hlike;go_wp2_with (go_at_call 135;refine HLK.out.mono ?_;rintro e w6 ⟨rfl,hb6⟩;have HB6:=Hi (HB5.out.trans (hb6.mono HB5.out.size));have HM6:=Hi (HMZ5.out.below hb6 (by have:=HMZL.out;simp;omega));clear hb6)
            go_roundw
            case rel=>exact ⟨k+1,m,by omega,by go_num,Hi (C3g HZ.out HSN.out),HB6,HM6,HFN⟩
            case measure=>simp [intOf];omega
          | false =>
            have HF:=Hi (HAT.out 11 (C2h HA.out HOK.out HUO.out HS0.out HJ.out.1 HJ.out.2 hlike) (by decide));rw [hlike] at HLK;clear hlike;go_wp2_with (go_at_call 135;refine HLK.out.mono ?_;rintro e w6 ⟨rfl,hb6⟩;have HB6:=Hi (HB5.out.trans (hb6.mono HB5.out.size));clear hb6)
            go_ret;exact ⟨A4e HF.out,HB6.out⟩
      ·have he:=A9e h0;have htk:(l.take k).length=k:=by rw [List.length_take];omega
       have hfind:=F5k b off cap (l.take k) (A2f (nk l k).path) wc (by omega) HCAP.out ((HC.out.below HB2.out).take k);rw [htk] at hfind;have HFI2:=Hi hfind;have htl:=A8y (l.take k) (A2f (nk l k).path);rw [htk] at htl;have hkc:k<=cap:=by omega
       have HUP:=Hi (show E2y l k↔(A1a (l.take k) (A2f (nk l k).path)<k/\(nk l (A1a (l.take k) (A2f (nk l k).path))).kind=2) from ⟨fun e=>e h0,fun e _=>e⟩);clear hfind htk h0;generalize hn:A1a (l.take k) (A2f (nk l k).path)=n at HFI2 HUP htl;clear hn;by_cases hnk:n<k
       ·have hfe:A0u n k=((n:Int),0):=by unfold A0u;rw [if_pos hnk]
        rw [hfe] at HFI2;clear hfe;go_wp2_with (first|(go_at_call 114;refine (HUPC.out _).mono ?_;rintro e w' ⟨rfl,rfl⟩)|fail)
        refine HFI2.out.mono ?_;rintro e wz ⟨rfl,hb⟩;have HBZ:=Hi (HB2.out.trans (hb.mono HB2.out.size));have HXZ:=Hi (HBX2.out.below hb);have HMZ:=Hi (HM2.out.below hb HMLT2.out);clear hb g0 g1 g2 g3 g4 g5 g6 g7 g8 g9 g10 g11;obtain ⟨g0,g1,g2,g3,g4,g5,g6,g7,g8,g9,g10,g11⟩:=HXZ.out.zero;obtain ⟨_,q1,_⟩:=(HC.out.below HBZ.out) n (by omega);by_cases hkd:(nk l n).kind=2
        ·have HUO:=Hi (HUP.out.2 ⟨hnk,hkd⟩);have hd2:((nk l n).kind != 2)=false:=by rw [hkd];rfl
         clear hkd;have hnl:(n:Int)<(l.length:Int):=by omega
         go_upto_region 17 with fail
         have hbz:=HXZ.out.lt;by_cases hs0:(nk l k).same=0
         ·have HS:=Hi (B7c HA.out HOK.out HUO.out (.inl hs0));have HFN:=Hi (HFI.out.skip hs0);have hsd:((nk l k).same==0)=true:=by rw [hs0];rfl
          clear hs0;go_wp2;go_roundw
          case rel=>exact ⟨k+1,m,by omega,by go_num,Hi (C3g HZ.out HS.out),HBZ,HMZ,HFN⟩
          case measure=>simp [intOf];omega
         ·have HS0:=Hi hs0;have hsd:((nk l k).same==0)=false:=by rw [beq_eq_false_iff_ne];exact hs0
          have HAS:=Hi (HFI.out _ hs0);have HMZL:=Hi HMZ.out.lt;have HWB:=Hi (show mb>=w.heap.size by rw [HMBE.out];exact Nat.le_refl _);clear hs0;cases hfst:A8x l k (nk l k).same with
          | none =>
            have HSN:=Hi (B7c HA.out HOK.out HUO.out (.inr fun j hj he=>absurd he (C3j hfst j hj)));have HFN:=Hi (HFI.out.put HS0.out hfst);have hlook:=HMZ.out.look_none A7q (t:=159) (k:=3) (e:=99) Tryz.underlying159 Tryz.underlying3 (by rw [HAS.out,hfst];rfl) (Tryz.zeroValue99 _) true;simp only [if_true] at hlook;have HB5:=Hi (HBZ.out.alloc HBZ.out.size (.cells #[.string ⟨#[]⟩,.int .i64 0,.int .i64 0,.string ⟨#[]⟩,.int .i64 0,.int .i64 0,.int .i64 0,.string ⟨#[]⟩,.string ⟨#[]⟩,.int .i64 0,.int .i64 0,.slice none 0 0] 99));obtain ⟨wp,hput,hmp,hgr⟩:=A0i.put (HMZ.out.below (w':=wz.alloc (.cells #[.string ⟨#[]⟩,.int .i64 0,.int .i64 0,.string ⟨#[]⟩,.int .i64 0,.int .i64 0,.int .i64 0,.string ⟨#[]⟩,.string ⟨#[]⟩,.int .i64 0,.int .i64 0,.slice none 0 0] 99)) ((Below.refl _ _).alloc lr _) HMZL.out) A7q (t:=159) (k:=3) (e:=99) Tryz.underlying159 Tryz.underlying3 (nk l k).same (nk l k).val;have HMP:=Hi hmp;have HB6:=Hi (HB5.out.grown hgr HB5.out.size (fun q hq=>by cases hq;exact HWB.out));clear hfst hmp hgr;go_wp2;go_roundw
            case rel=>exact ⟨k+1,_,by omega,by go_num,Hi (C3g HZ.out HSN.out),HB6,HMP,HFN⟩
            case measure=>simp [intOf];omega
          | some j =>
            obtain ⟨hj,hjs⟩:=B2m hfst;have hlook:=HMZ.out.look_some A7q (t:=159) (k:=3) (e:=99) Tryz.underlying159 Tryz.underlying3 (a:=(nk l k).same) (v:=(nk l j).val) (by rw [HAS.out,hfst];rfl) true;simp only [if_true] at hlook;have HFN:=Hi (HFI.out.has hfst);have HB5:=Hi (HBZ.out.alloc HBZ.out.size (.cells #[.string (nk l j).path,.int .i64 (nk l j).kind,.int .i64 (nk l j).same,.string (nk l j).target,.int .i64 (nk l j).mt.mode,.int .i64 (nk l j).mt.uid,.int .i64 (nk l j).mt.gid,.string (nk l j).mt.user,.string (nk l j).mt.group,.int .i64 (nk l j).mt.second,.int .i64 (nk l j).mt.nano,.slice (nk l j).da (nk l j).data.length (nk l j).dcap] 99));have HMZ5:=Hi (HMZ.out.below (w':=wz.alloc (.cells #[.string (nk l j).path,.int .i64 (nk l j).kind,.int .i64 (nk l j).same,.string (nk l j).target,.int .i64 (nk l j).mt.mode,.int .i64 (nk l j).mt.uid,.int .i64 (nk l j).mt.gid,.string (nk l j).mt.user,.string (nk l j).mt.group,.int .i64 (nk l j).mt.second,.int .i64 (nk l j).mt.nano,.slice (nk l j).da (nk l j).data.length (nk l j).dcap] 99)) ((Below.refl _ _).alloc lr _) HMZL.out);have HLK:=Hi (D4z (nk l j) (nk l k) (wz.alloc (.cells #[.string (nk l j).path,.int .i64 (nk l j).kind,.int .i64 (nk l j).same,.string (nk l j).target,.int .i64 (nk l j).mt.mode,.int .i64 (nk l j).mt.uid,.int .i64 (nk l j).mt.gid,.string (nk l j).mt.user,.string (nk l j).mt.group,.int .i64 (nk l j).mt.second,.int .i64 (nk l j).mt.nano,.slice (nk l j).da (nk l j).data.length (nk l j).dcap] 99)) ((HO.out j (by omega)).below HB5.out).data ((HO.out k hlt).below HB5.out).data);have HFST:=Hi hfst;have HJ:=Hi (And.intro hj hjs);clear hfst hjs hj;cases hlike:A5x (nk l j) (nk l k) with
            | true =>
              have HSN:=Hi (B7c HA.out HOK.out HUO.out (.inr (E4k HZ.out HS0.out HFST.out hlike)));rw [hlike] at HLK;clear hlike;go_wp2_with (go_at_call 135;refine HLK.out.mono ?_;rintro e w6 ⟨rfl,hb6⟩;have HB6:=Hi (HB5.out.trans (hb6.mono HB5.out.size));have HM6:=Hi (HMZ5.out.below hb6 (by have:=HMZL.out;simp;omega));clear hb6)
              go_roundw
              case rel=>exact ⟨k+1,m,by omega,by go_num,Hi (C3g HZ.out HSN.out),HB6,HM6,HFN⟩
              case measure=>simp [intOf];omega
            | false =>
              have HF:=Hi (HAT.out 11 (C2h HA.out HOK.out HUO.out HS0.out HJ.out.1 HJ.out.2 hlike) (by decide));rw [hlike] at HLK;clear hlike;go_wp2_with (go_at_call 135;refine HLK.out.mono ?_;rintro e w6 ⟨rfl,hb6⟩;have HB6:=Hi (HB5.out.trans (hb6.mono HB5.out.size));clear hb6)
              go_ret;exact ⟨A4e HF.out,HB6.out⟩
        ·have HF:=Hi (HAT.out 10 (C1r HA.out HOK.out (fun e=>hkd (HUP.out.1 e).2)) (by decide));have hd2:((nk l n).kind != 2)=true:=by rw [bne_iff_ne];exact hkd
         have hnl:(n:Int)<(l.length:Int):=by omega
         clear hkd;go_wp2;go_ret;exact ⟨A4e HF.out,HBZ.out⟩
       ·have hfe:A0u n k=(0,5):=by unfold A0u;rw [if_neg hnk]
        rw [hfe] at HFI2;clear hfe;have HF:=Hi (HAT.out 10 (C1r HA.out HOK.out (fun e=>hnk (HUP.out.1 e).1)) (by decide));go_wp2_with (first|(go_at_call 114;refine (HUPC.out _).mono ?_;rintro e w' ⟨rfl,rfl⟩)|fail)
        refine HFI2.out.mono ?_;rintro e wz ⟨rfl,hb⟩;have HBZ:=Hi (HB2.out.trans (hb.mono HB2.out.size));clear hb;go_wp2;go_ret;exact ⟨A4e HF.out,HBZ.out⟩
     ·have HF:=Hi (HAT.out 6 (C2r HA.out (D2h hO).1 (D2h hO).2) (by decide));rw [E5j hO];clear hO;go_wp2;go_ret;exact ⟨A4e HF.out,HB2.out⟩
   ·have HF:=Hi (HAT.out _ (C3r hA) hA);go_wp2_with fail
    refine (D1s _ _ (HM.out.below (HB.out.alloc HB.out.size _)) (HX.out.below ((Below.refl _ _).alloc lr _))).mono ?_;rintro e w1 ⟨rfl,hb⟩;have HB1:=Hi ((HB.out.alloc HB.out.size _).trans (hb.mono (by simp;exact Nat.le_succ_of_le HB.out.size)));clear hb h0 h1 h2 h3 h4 h5 h6 h7 h8 h9 h10 h11;generalize A6c (nk l k)=q at *;go_wp2;go_ret;exact ⟨A4e HF.out,HB1.out⟩
  ·obtain rfl:k=l.length:=by omega
   have HF:=Hi (A3v hfew HZ.out);go_wp2;go_ret;exact ⟨A4e HF.out,HB.out⟩
theorem D8j (a : Option Addr) (cap : Nat) (w : World) :
 Calls Tryz.prog 74 #[.slice a 0 cap] w fun e w'=>e=.returned (.int .i64 0)/\Below w.heap.size w w':=by
 have HMB:=Hi ((Below.refl w.heap.size w).alloc lr (.map #[] 0));have hmm := @run_makeMap Tryz.prog;go_enter Tryz.func74,Tryz.ntmps74;go_wp2;clear hmm
 go_loop [4,5,6,7,8,9,10,11,18] (fun _ _ _ _ _ _ _ _ i=>i=.int .i64 0) (fun _ _ _ _ _ _ _ _ _=>0)
 case atStart=>rfl
 case round =>
  obtain rfl:=hrel;go_wp2;go_ret;exact ⟨rfl,HMB.out⟩
theorem A3g : A0a [] = 0 := A3v (by simp) (fun j hj => absurd hj (by simp))
theorem A9h (v : Value) (l : List Nod) (w : World) (hM : A1n w) (h : A4a maxLen 12 (B6b maxLen) w [v] l) :
 Calls Tryz.prog 74 #[v] w fun e w'=>e=.returned (.int .i64 (A0a l))/\Below w.heap.size w w':=by
 rcases A1g h with ⟨a,cap,rfl,rfl,_⟩|⟨b,off,cap,rfl,h1,h2,h3,_,h4,h5⟩
 ·rw [A3g];exact D8j a cap w
 ·exact D4w b off cap l w hM h1 h2 h3 h4 h5
theorem A0e (v : Value) (l : List Nod) (w : World) (h : A4a maxLen 12 (B6b maxLen) w [v] l) :
 Calls Tryz.prog 78 #[v] w fun e w'=>e=.returned (.int .i64 (A0a l))/\Below w.heap.size w w':=by
 rcases A1g h with ⟨a,cap,rfl,rfl,_⟩|⟨b,off,cap,rfl,h1,h2,h3,_,h4,h5⟩
 ·rw [A3g];exact (D7j a cap w).mono fun e w' ⟨h1,h2⟩=>⟨h1,by rw [<-h2];exact Below.refl _ _⟩
 ·exact D3w b off cap l w h1 h2 h3 h4 h5
theorem A8c {N : Nat} {w w' : World} {v : Value} {l : List Nod} (h : A4a N 12 (B6b N) w [v] l) (hb : Below w.heap.size w w') : A4a N 12 (B6b N) w' [v] l :=
 h.below (fun _ _ ⟨h1,h2⟩=>⟨h1,h2.below hb⟩) hb
abbrev A4h (x : Nod) : Obj := .cells #[.string x.path,.int .i64 x.kind,.int .i64 x.same,.string x.target,.int .i64 x.mt.mode,.int .i64 x.mt.uid,.int .i64 x.mt.gid,.string x.mt.user,.string x.mt.group,.int .i64 x.mt.second,.int .i64 x.mt.nano,.slice x.da x.data.length x.dcap] 99
theorem grown_below {w w1 w2 : World} {mb : Nat} (hb : Below w.heap.size w w1) (hg : w1.grownBy w2 (some mb)) : w.grownBy w2 (some mb) := by
 obtain ⟨a1,a2,a3,a4,a5⟩:=hg;exact ⟨a1.trans hb.os,a2.trans hb.tape,a3.trans hb.output,Nat.le_trans hb.size a4,fun k hk hne=>(a5 k (Nat.lt_of_lt_of_le hk hb.size) hne).trans (hb.block k hk)⟩
theorem E6f (x y : Nod) (w : World) (hxy : x.bare = y.bare) (hx : x.Ok maxLen w) (hy : y.Ok maxLen w) :
 Calls Tryz.prog 67 #[x.val,y.val] w fun e w'=>e=.returned (.bool true)/\Below w.heap.size w w':=by
 obtain ⟨p,k,s,t,m,da,dc,d⟩:=x;obtain ⟨p',k',s',t',m',da',dc',d'⟩:=y;obtain ⟨h1,h2,h3,h4,h5,h6⟩:=B1f hxy;simp only at h1 h2 h3 h4 h5 h6;subst h1 h2 h3 h4 h5 h6;have HB:=Hi fun o1 o2:Obj=>((Below.refl w.heap.size w).alloc lr o1).alloc (by simp) o2
 have HS:=Hi (fun o1 o2:Obj=>D9o (N:=maxLen) (M:=maxLen) (.slice da d.length dc) (.slice da' d.length dc') d ((w.alloc o1).alloc o2) (hx.data.below (fun _ _ h=>h) (HB.out o1 o2)) (hy.data.below (fun _ _ h=>h) (HB.out o1 o2)));obtain ⟨mo,ui,gi,us,gr,se,na⟩:=m;have q1:(p.toList==p.toList)=true:=by simp
 have q2:(k==k)=true:=by simp
 have q3:(s==s)=true:=by simp
 have q4:(t.toList==t.toList)=true:=by simp
 have q5:(mo==mo)=true:=by simp
 have q6:(ui==ui)=true:=by simp
 have q7:(gi==gi)=true:=by simp
 have q8:(us.toList==us.toList)=true:=by simp
 have q9:(gr.toList==gr.toList)=true:=by simp
 have q10:(se==se)=true:=by simp
 have q11:(na==na)=true:=by simp
 clear hx hy hxy;go_enter Tryz.func67,Tryz.ntmps67;go_wp2_with fail
 refine (HS.out _ _).mono ?_;rintro e w1 ⟨rfl,rfl⟩;go_wp2;go_ret;exact ⟨rfl,HB.out _ _⟩
theorem D2y (b off cap b2 off2 cap2 : Nat) (l m : List Nod) (w : World) (hpos : 0 < l.length) (hlm : l.map Nod.bare = m.map Nod.bare) (hle : l.length ≤ cap) (hm : cap ≤ maxLen) (hle2 : m.length ≤ cap2) (hm2 : cap2 ≤ maxLen) (hc : A5p w b off l) (hc2 : A5p w b2 off2 m)
 (hk:∀ i,i<l.length->(nk l i).Ok maxLen w) (hk2:∀ i,i<m.length->(nk m i).Ok maxLen w) :
 Calls Tryz.prog 66 #[.slice (some ⟨b,off,none⟩) l.length cap,.slice (some ⟨b2,off2,none⟩) m.length cap2,.func (.func 67) #[] #[]] w fun e w'=>e=.returned (.bool true)/\Below w.heap.size w w':=by
 have hl:=A5i hlm;unfold maxLen at hm hm2;have HC:=Hi hc;have HC2:=Hi (fun i (hi:i<l.length)=>hc2 i (by omega));have HK:=Hi hk;have HK2:=Hi (fun i (hi:i<l.length)=>hk2 i (by omega));have HLM:=Hi (fun k (hk:k<l.length)=>D4j hlm hk);clear hc hc2 hk hk2 hlm;rw [<-hl] at hle2 ⊢;clear hl;generalize hn:l.length=n at *;go_enter Tryz.func66,Tryz.ntmps66;go_wp2;go_loopw [7,8,9,17] (fun _ _ _ i wr=>∃ k:Nat,k<=n/\i=.int .i64 k/\Hid (Below w.heap.size w wr)) (fun _ _ _ i _=>n-(intOf i).toNat)
 case atStart=>exact ⟨0,by omega,rfl,Hi (Below.refl _ _)⟩
 case round =>
  obtain ⟨k,hk,rfl,HB⟩:=hrel;by_cases hlt:k<n
  ·obtain ⟨h0,h1,h2,h3,h4,h5,h6,h7,h8,h9,h10,h11⟩:=(HC.out.below HB.out) k (by omega);obtain ⟨g0,g1,g2,g3,g4,g5,g6,g7,g8,g9,g10,g11⟩:=((HC2.out k hlt).below HB.out).below ((Below.refl wr.heap.size wr).alloc lr (A4h (nk l k)));have HS:=Hi (fun (w3:World) (hb:Below wr.heap.size wr w3)=>E6f (nk l k) (nk m k) w3 (HLM.out k hlt) (((HK.out k hlt).below HB.out).below hb) (((HK2.out k hlt).below HB.out).below hb));generalize nk l k=x at *;generalize nk m k=y at *;go_wp2_with (go_at_call 67;have hbb:=((Below.refl wr.heap.size wr).alloc lr (A4h x)).alloc (by simp) (A4h y);refine (HS.out _ hbb).mono ?_;rintro e w' ⟨rfl,hb2⟩;have HB2:=Hi (HB.out.trans ((hbb.trans (hb2.mono hbb.size)).mono HB.out.size));clear hb2 hbb)
   go_roundw
   case rel=>exact ⟨k+1,by omega,by go_num,HB2⟩
   case measure=>simp [intOf];omega
  ·obtain rfl:k=n:=by omega
   go_wp2;go_ret;exact ⟨rfl,HB.out⟩
theorem D1m (a a2 : Option Addr) (cap cap2 : Nat) (f : Value) (w : World) :
 Calls Tryz.prog 66 #[.slice a 0 cap,.slice a2 0 cap2,f] w fun e w'=>e=.returned (.bool true)/\w=w':=by
 go_enter Tryz.func66,Tryz.ntmps66;go_wp2
 go_loop [7,8,9,17] (fun _ _ _ i=>i=.int .i64 0) (fun _ _ _ i=>0)
 case atStart=>rfl
 case round =>
  obtain rfl:=hrel;go_wp2;go_ret;exact ⟨rfl,rfl⟩
theorem E5f (v u : Value) (l m : List Nod) (w : World) (hlm : l.map Nod.bare = m.map Nod.bare) (hv : A4a maxLen 12 (B6b maxLen) w [v] l) (hu : A4a maxLen 12 (B6b maxLen) w [u] m) :
 Calls Tryz.prog 31 #[v,u] w fun e w'=>e=.returned (.bool true)/\Below w.heap.size w w':=by
 have hl:=A5i hlm;have HQ:Hid (Calls Tryz.prog 66 #[v,u,.func (.func 67) #[] #[]] w fun e w'=>e=.returned (.bool true)/\Below w.heap.size w w'):=Hi (by
  rcases A1g hv with ⟨a,cap,rfl,rfl,_⟩|⟨b,off,cap,rfl,h1,h2,h3,h6,h4,h5⟩
  ·rcases A1g hu with ⟨a2,cap2,rfl,rfl,_⟩|⟨b,off,cap,rfl,h1,h2,h3,h6,h4,h5⟩
   ·refine (D1m a a2 cap cap2 _ w).mono ?_;rintro e w' ⟨rfl,rfl⟩;exact ⟨rfl,Below.refl _ _⟩
   ·simp at hl;omega
  ·rcases A1g hu with ⟨a2,cap2,rfl,rfl,_⟩|⟨b2,off2,cap2,rfl,g1,g2,g3,g6,g4,g5⟩
   ·simp at hl;simp [hl] at h1
   ·exact D2y b off cap b2 off2 cap2 l m w h1 hlm h2 h3 g2 g3 h4 g4 h5 g5)
 clear hv hu hlm;go_enter Tryz.func31,Tryz.ntmps31;go_wp2_with fail
 refine HQ.out.mono ?_;rintro e w1 ⟨rfl,hb⟩;have HB:=Hi hb;clear hb;go_wp2;go_ret;exact ⟨rfl,HB.out⟩
end Go.Proofs.YtaffgndickdbiaaGreatDoor
