/-
  Texts: PadCutRef.
-/
import Derived.Test.YtaffgndickdbiaaGreatDoorQ10
set_option linter.unusedVariables false
set_option linter.unusedSimpArgs false
set_option linter.unusedSectionVars false
namespace Go.Proofs.YtaffgndickdbiaaGreatDoor
open Go.Creel Go.RowKit
set_option maxRecDepth 100000 in
set_option maxHeartbeats 8000000 in
theorem PadCutR_bad (v : Value) (l : List UInt8) (n : Int) (w : World) (hn : i64 n) (h : n < 0 ∨ 8589934591 < n) :
 Calls Tryz.prog 126 #[v,.int .i64 n] w (RetBB 5 w (padCut l n)):=by
 have HK:=Lib.hid (fun (w:World)=>PadBlocks_any n w hn)
 have HP:=Lib.hid (show padBlocks n=(0,4) by unfold padBlocks;rw [if_neg (by omega)])
 have HF:=Lib.hid (show padCut l n=([],[],4) by unfold padCut;rw [if_pos h])
 clear h hn
 go_enter Tryz.func126,Tryz.ntmps126
 go_wp2_with (go_at_call 182;refine (HK.out _).mono ?_;rintro e w' ⟨rfl,rfl⟩;rw [HP.out])
 go_ret3
 exact RetBB.err HF.out (Below.refl _ _)
set_option maxRecDepth 100000 in
set_option maxHeartbeats 8000000 in
theorem PadCutR_some {N : Nat} (b off cap : Nat) (l : List UInt8) (m k : Nat) (w : World) (hn : m ≤ 8589934591) (hkk : (m + 511) / 512 = k) (hl : l.length ≤ 1048576) (hle : l.length ≤ cap) (hm : cap ≤ maxLen) (hN : l.length ≤ N) (hc : ∀ i,i < l.length → w.cell? ⟨b,off + i,none⟩ = some (.int .u8 (bl l i))) :
 Calls Tryz.prog 126 #[.slice (some ⟨b,off,none⟩) l.length cap,.int .i64 m] w (RetBB 5 w (padCut l m)):=by
 have HK:=Lib.hid (fun (w:World)=>PadBlocks_any m w (by unfold i64;omega))
 obtain ⟨i0,hi,hz0,hz1,hz2⟩:=info_parts info_byte2
 have HI:=Lib.hid (And.intro hi (And.intro hz0 (And.intro hz1 hz2)))
 clear hi hz0 hz1 hz2
 have HP:=Lib.hid (show padBlocks (m:Int)=(((k:Nat):Int),0) by unfold padBlocks;rw [if_pos (by omega),<-hkk];congr 1)
 have hk:m<=k*512:=by omega
 by_cases hs:l.length<k*512
 ·have HF:=Lib.hid (show padCut l (m:Int)=([],[],7) by unfold padCut;rw [if_neg (by omega),Int.toNat_natCast,hkk,if_pos hs])
  clear hc
  go_enter Tryz.func126,Tryz.ntmps126
  go_wp2_with (go_at_call 182;refine (HK.out _).mono ?_;rintro e w' ⟨rfl,rfl⟩;rw [HP.out])
  all_goals first|(exfalso;omega)|(go_ret3;exact RetBB.err HF.out (Below.refl _ _))
 ·have hs1:=slice_sub (N:=N) hle hm hN hc 0 m (by omega)
  rw [Nat.add_zero,List.drop_zero,Nat.sub_zero] at hs1
  have HS1:=Lib.hid hs1
  have hs2:=slice_sub (N:=N) hle hm hN hc (k*512) (l.length-k*512) (by omega)
  rw [List.take_of_length_le (by simp)] at hs2
  have HS2:=Lib.hid hs2
  have HC:=Lib.hid hc
  clear hs1 hs2 hc
  unfold maxLen at hm
  have hmc:m<=cap:=by omega
  have hkl:k*512<=l.length:=by omega
  have hkc:k*512<=cap:=by omega
  have hk0:(0:Int)<=512*(k:Int):=by omega
  have hki:(m:Int)<=(k:Int)*512:=by omega
  have hkl2:512*(k:Int)<=(l.length:Int):=by omega
  have hki2:(m:Int)<=512*(k:Int):=by omega
  have hkt:(512*(k:Int)).toNat=k*512:=by omega
  have hwr:IntKind.i64.wrap (512*(k:Int))=512*(k:Int):=by rw [IntKind.wrap_i64];omega
  have hKI:(512*(k:Int))=((k*512:Nat):Int):=by omega
  generalize hK:k*512=KX at *
  have hwK:IntKind.i64.wrap (KX:Int)=(KX:Int):=by rw [IntKind.wrap_i64];omega
  have hKl:(KX:Int)<=(l.length:Int):=by omega
  have hKm:(m:Int)<=(KX:Int):=by omega
  go_enter Tryz.func126,Tryz.ntmps126
  go_wp2_with (go_at_call 182;refine (HK.out _).mono ?_;rintro e w' ⟨rfl,rfl⟩;rw [HP.out])
  all_goals try (exfalso;omega)
  go_loop [9] (fun i=>∃ j:Nat,m<=j/\j<=KX/\i = .int .i64 j/\Hid (∀ q,m<=q->q<j->bl l q=0)) (fun i=>KX-(intOf i).toNat)
  case atStart=>exact ⟨m,by omega,by omega,rfl,Lib.hid fun q h1 h2=>absurd h1 (by omega)⟩
  case round =>
   obtain ⟨j,h1,h2,rfl,HD⟩:=hrel
   by_cases hlt:j<KX
   ·have hcj:=HC.out j (by omega)
    have hbl:=bl_lt l j
    by_cases hz:bl l j=0
    ·have HZ:=Lib.hid hz
     go_wp2
     go_round
     case rel=>exact ⟨j+1,by omega,by omega,by go_num,Lib.hid fun q h1 h2=>by
      by_cases e:q=j
      ·rw [e];exact HZ.out
      ·exact HD.out q h1 (by omega)⟩
     case measure=>simp [intOf];omega
    ·have HF:=Lib.hid (show padCut l (m:Int)=([],[],3) by unfold padCut;rw [if_neg (by omega),Int.toNat_natCast,hkk,hK,if_neg hs,if_neg (fun e=>hz (e j h1 hlt))])
     go_wp2
     go_ret3
     exact RetBB.err HF.out (Below.refl _ _)
   ·obtain rfl:KX=j:=by omega
    have HF:=Lib.hid (show padCut l (m:Int)=(l.take m,l.drop (KX),0) by unfold padCut;rw [if_neg (by omega),Int.toNat_natCast,hkk,hK,if_neg hs,if_pos (show zeroB l m (KX) from HD.out)])
    have HOX:Hid (OwnBs 5 (w.alloc (.cells #[] 5)) w.heap.size (.slice (some ⟨w.heap.size,0,none⟩) 0 0) []):=Lib.hid (World.ownsRow_made w #[] 0 (Nat.le_refl _) (by simp) rfl)
    have HBX:=Lib.hid ((Below.refl w.heap.size w).alloc (Nat.le_refl _) (.cells #[] 5))
    have HOA:=Lib.hid (OwnBs.below HOX.out (Below.refl _ _).drew)
    have HBA:=Lib.hid HBX.out.drew
    have HBB:=Lib.hid (HBX.out.alloc HBX.out.size (.cells #[] 5)).drew
    have HO0:Hid (OwnBs 5 ((w.alloc (.cells #[] 5)).alloc (.cells #[] 5)).drew w.heap.size (.slice (some ⟨w.heap.size,0,none⟩) 0 0) []):=Lib.hid (OwnBs.below (World.ownsRow.alloc HOX.out (.cells #[] 5)) (Below.refl _ _).drew)
    have HO1:Hid (OwnBs 5 ((w.alloc (.cells #[] 5)).alloc (.cells #[] 5)).drew w.heap.size (.slice (some ⟨w.heap.size+1,0,none⟩) 0 0) []):=Lib.hid (by
     have e:=World.ownsRow_made (base:=w.heap.size) (e:=5) (size:=1) (w.alloc (.cells #[] 5)) #[] 0 (by simp) (by simp) rfl
     have e2:OwnBs 5 ((w.alloc (.cells #[] 5)).alloc (.cells #[] 5)) w.heap.size (.slice (some ⟨w.heap.size+1,0,none⟩) 0 0) []:=by simpa [OwnBs] using e
     exact e2.below (Below.refl _ _).drew)
    by_cases hck:cap=KX
    ·have HS2:Hid (SliceC N 1 ByteC w [.slice (some ⟨b,off,none⟩) 0 0] (l.drop (KX))):=Lib.hid (by
      rw [List.drop_of_length_le (by omega)];exact slice_zero _ _ _ (by decide))
     obtain rfl:KX=cap:=hck.symm
     have HAPA:=Lib.hid (fun ty=>app_bytes (l:=[]) (B:=w.heap.size) ((w.alloc (.cells #[] 5)).drew) 24 24 5 5 i0 Tryz.underlying24 Tryz.underlying24 HI.out.1 HI.out.2.1 HI.out.2.2.1 HI.out.2.2.2 (HOA.out) (HS1.out.below (fun _ _ h=>h) (HBA.out)) (by simp;omega) (HBA.out).size ty)
     have HAPB:=Lib.hid (fun ty=>app_bytes (l:=[]) (B:=w.heap.size) (((w.alloc (.cells #[] 5)).alloc (.cells #[] 5)).drew) 24 24 5 5 i0 Tryz.underlying24 Tryz.underlying24 HI.out.1 HI.out.2.1 HI.out.2.2.1 HI.out.2.2.2 (HO0.out) (HS1.out.below (fun _ _ h=>h) (HBB.out)) (by simp;omega) (HBB.out).size ty)
     have HAPC:=Lib.hid (fun ty=>app_bytes (l:=[]) (B:=w.heap.size) (((w.alloc (.cells #[] 5)).alloc (.cells #[] 5)).drew) 24 24 5 5 i0 Tryz.underlying24 Tryz.underlying24 HI.out.1 HI.out.2.1 HI.out.2.2.1 HI.out.2.2.2 (HO1.out) (HS1.out.below (fun _ _ h=>h) (HBB.out)) (by simp;omega) (HBB.out).size ty)
     have HD0:=Lib.hid (show l.drop KX=[] from List.drop_of_length_le (by omega))
     go_wp2
     go_region_law (first
      | (change (if Region.wanted (Oper.mk (some 39) _ _ _ _ _) _=true then Oper.wp _ _ _ ((w.alloc (.cells #[] 5)).drew) _ _ else _);refine step_app ((w.alloc (.cells #[] 5)).drew) rfl (.tmp 35) (.tmp 38) 24 24 rfl (.slice (some ⟨w.heap.size,0,none⟩) 0 0) (.slice (some ⟨b,off,none⟩) m KX) ?_ (by simp [Act.eval,Act.put]) HAPA.out ?_;simp [Act.eval,Act.put];intro v1 w1 ho hg hx;have HO:=Lib.hid (OwnBs.app (l:=[]) ho);have HB:=Lib.hid (below_app (HBA.out) hg HOA.out (HBA.out).size);have HV4:Hid (OwnBs 5 (w1.alloc (.cells #[] 5)) w.heap.size (.slice (some ⟨w1.heap.size,0,none⟩) 0 0) []):=Lib.hid (World.ownsRow_made w1 #[] 0 HB.out.size (by simp) rfl);clear ho hg hx)
      | (change (if Region.wanted (Oper.mk (some 39) _ _ _ _ _) _=true then Oper.wp _ _ _ (((w.alloc (.cells #[] 5)).alloc (.cells #[] 5)).drew) _ _ else _);refine step_app (((w.alloc (.cells #[] 5)).alloc (.cells #[] 5)).drew) rfl (.tmp 35) (.tmp 38) 24 24 rfl (.slice (some ⟨w.heap.size,0,none⟩) 0 0) (.slice (some ⟨b,off,none⟩) m KX) ?_ (by simp [Act.eval,Act.put]) HAPB.out ?_;simp [Act.eval,Act.put];intro v1 w1 ho hg hx;have HO:=Lib.hid (OwnBs.app (l:=[]) ho);have HB:=Lib.hid (below_app (HBB.out) hg HO0.out (HBB.out).size);have HVB:=Lib.hid (World.ownsRow.kept HO1.out hg (.inr (by simp [Value.ownBlock])));have HNE:=Lib.hid (blk_ne hx.2 (b:=w.heap.size+1) (by simp [Value.ownBlock]) (by simp));clear ho hg hx)
      | (change (if Region.wanted (Oper.mk (some 39) _ _ _ _ _) _=true then Oper.wp _ _ _ (((w.alloc (.cells #[] 5)).alloc (.cells #[] 5)).drew) _ _ else _);refine step_app (((w.alloc (.cells #[] 5)).alloc (.cells #[] 5)).drew) rfl (.tmp 35) (.tmp 38) 24 24 rfl (.slice (some ⟨w.heap.size+1,0,none⟩) 0 0) (.slice (some ⟨b,off,none⟩) m KX) ?_ (by simp [Act.eval,Act.put]) HAPC.out ?_;simp [Act.eval,Act.put];intro v1 w1 ho hg hx;have HO:=Lib.hid (OwnBs.app (l:=[]) ho);have HB:=Lib.hid (below_app (HBB.out) hg HO1.out (HBB.out).size);have HVC:=Lib.hid (World.ownsRow.kept HO0.out hg (.inr (by simp [Value.ownBlock])));have HNE:=Lib.hid (blk_ne hx.2 (b:=w.heap.size) (by simp [Value.ownBlock]) (by simp<;>omega));clear ho hg hx))
     all_goals
      go_wp2
      go_ret3
      rw [HF.out,HD0.out]
      first
       | exact ⟨_,_,rfl,World.ownsRow.alloc HO.out _,HV4.out,HB.out.alloc HB.out.size _⟩
       | exact ⟨_,_,rfl,HO.out,HVB.out,HB.out⟩
       | exact ⟨_,_,rfl,HO.out,HVC.out,HB.out⟩
    ·skip
     have HAPA:=Lib.hid (fun ty=>app_bytes (l:=[]) (B:=w.heap.size) ((w.alloc (.cells #[] 5)).drew) 24 24 5 5 i0 Tryz.underlying24 Tryz.underlying24 HI.out.1 HI.out.2.1 HI.out.2.2.1 HI.out.2.2.2 (HOA.out) (HS1.out.below (fun _ _ h=>h) (HBA.out)) (by simp;omega) (HBA.out).size ty)
     have HAPB:=Lib.hid (fun ty=>app_bytes (l:=[]) (B:=w.heap.size) (((w.alloc (.cells #[] 5)).alloc (.cells #[] 5)).drew) 24 24 5 5 i0 Tryz.underlying24 Tryz.underlying24 HI.out.1 HI.out.2.1 HI.out.2.2.1 HI.out.2.2.2 (HO0.out) (HS1.out.below (fun _ _ h=>h) (HBB.out)) (by simp;omega) (HBB.out).size ty)
     have HAPC:=Lib.hid (fun ty=>app_bytes (l:=[]) (B:=w.heap.size) (((w.alloc (.cells #[] 5)).alloc (.cells #[] 5)).drew) 24 24 5 5 i0 Tryz.underlying24 Tryz.underlying24 HI.out.1 HI.out.2.1 HI.out.2.2.1 HI.out.2.2.2 (HO1.out) (HS1.out.below (fun _ _ h=>h) (HBB.out)) (by simp;omega) (HBB.out).size ty)
     go_wp2
     go_region_law (first
      | (change (if Region.wanted (Oper.mk (some 39) _ _ _ _ _) _=true then Oper.wp _ _ _ ((w.alloc (.cells #[] 5)).drew) _ _ else _);refine step_app ((w.alloc (.cells #[] 5)).drew) rfl (.tmp 35) (.tmp 38) 24 24 rfl (.slice (some ⟨w.heap.size,0,none⟩) 0 0) (.slice (some ⟨b,off,none⟩) m cap) ?_ (by simp [Act.eval,Act.put]) HAPA.out ?_;simp [Act.eval,Act.put];intro v1 w1 ho hg hx;have HO:=Lib.hid (OwnBs.app (l:=[]) ho);have HB:=Lib.hid (below_app (HBA.out) hg HOA.out (HBA.out).size);have HV4:Hid (OwnBs 5 (w1.alloc (.cells #[] 5)) w.heap.size (.slice (some ⟨w1.heap.size,0,none⟩) 0 0) []):=Lib.hid (World.ownsRow_made w1 #[] 0 HB.out.size (by simp) rfl);clear ho hg hx)
      | (change (if Region.wanted (Oper.mk (some 39) _ _ _ _ _) _=true then Oper.wp _ _ _ (((w.alloc (.cells #[] 5)).alloc (.cells #[] 5)).drew) _ _ else _);refine step_app (((w.alloc (.cells #[] 5)).alloc (.cells #[] 5)).drew) rfl (.tmp 35) (.tmp 38) 24 24 rfl (.slice (some ⟨w.heap.size,0,none⟩) 0 0) (.slice (some ⟨b,off,none⟩) m cap) ?_ (by simp [Act.eval,Act.put]) HAPB.out ?_;simp [Act.eval,Act.put];intro v1 w1 ho hg hx;have HO:=Lib.hid (OwnBs.app (l:=[]) ho);have HB:=Lib.hid (below_app (HBB.out) hg HO0.out (HBB.out).size);have HVB:=Lib.hid (World.ownsRow.kept HO1.out hg (.inr (by simp [Value.ownBlock])));have HNE:=Lib.hid (blk_ne hx.2 (b:=w.heap.size+1) (by simp [Value.ownBlock]) (by simp));clear ho hg hx)
      | (change (if Region.wanted (Oper.mk (some 39) _ _ _ _ _) _=true then Oper.wp _ _ _ (((w.alloc (.cells #[] 5)).alloc (.cells #[] 5)).drew) _ _ else _);refine step_app (((w.alloc (.cells #[] 5)).alloc (.cells #[] 5)).drew) rfl (.tmp 35) (.tmp 38) 24 24 rfl (.slice (some ⟨w.heap.size+1,0,none⟩) 0 0) (.slice (some ⟨b,off,none⟩) m cap) ?_ (by simp [Act.eval,Act.put]) HAPC.out ?_;simp [Act.eval,Act.put];intro v1 w1 ho hg hx;have HO:=Lib.hid (OwnBs.app (l:=[]) ho);have HB:=Lib.hid (below_app (HBB.out) hg HO1.out (HBB.out).size);have HVC:=Lib.hid (World.ownsRow.kept HO0.out hg (.inr (by simp [Value.ownBlock])));have HNE:=Lib.hid (blk_ne hx.2 (b:=w.heap.size) (by simp [Value.ownBlock]) (by simp<;>omega));clear ho hg hx)
      | (change (if Region.wanted (Oper.mk (some 45) _ _ _ _ _) _=true then Oper.wp _ _ _ (w1.alloc (.cells #[] 5)) _ _ else _);have hap:=fun ty=>app_bytes (l:=[]) (B:=w.heap.size) (w1.alloc (.cells #[] 5)) 24 24 5 5 i0 Tryz.underlying24 Tryz.underlying24 HI.out.1 HI.out.2.1 HI.out.2.2.1 HI.out.2.2.2 (HV4.out) (HS2.out.below (fun _ _ h=>h) (HB.out.alloc HB.out.size (.cells #[] 5))) (by simp;omega) (HB.out.alloc HB.out.size (.cells #[] 5)).size ty;refine step_app (w1.alloc (.cells #[] 5)) rfl (.tmp 40) (.tmp 44) 24 24 rfl (.slice (some ⟨w1.heap.size,0,none⟩) 0 0) (.slice (some ⟨b,off+KX,none⟩) (l.length-KX) (cap-KX)) ?_ (by simp [Act.eval,Act.put]) hap ?_;simp [Act.eval,Act.put];intro v2 w2 ho hg hx;have HO2:=Lib.hid (OwnBs.app (l:=[]) ho);have HBF:=Lib.hid (below_app (HB.out.alloc HB.out.size (.cells #[] 5)) hg (HV4.out) (HB.out.alloc HB.out.size (.cells #[] 5)).size);have HOF:=Lib.hid (World.ownsRow.kept (World.ownsRow.alloc HO.out (.cells #[] 5)) hg (own_lt HO.out));clear ho hg hx hap)
      | (change (if Region.wanted (Oper.mk (some 45) _ _ _ _ _) _=true then Oper.wp _ _ _ (w1) _ _ else _);have hap:=fun ty=>app_bytes (l:=[]) (B:=w.heap.size) (w1) 24 24 5 5 i0 Tryz.underlying24 Tryz.underlying24 HI.out.1 HI.out.2.1 HI.out.2.2.1 HI.out.2.2.2 (HVB.out) (HS2.out.below (fun _ _ h=>h) (HB.out)) (by simp;omega) (HB.out).size ty;refine step_app (w1) rfl (.tmp 40) (.tmp 44) 24 24 rfl (.slice (some ⟨w.heap.size+1,0,none⟩) 0 0) (.slice (some ⟨b,off+KX,none⟩) (l.length-KX) (cap-KX)) ?_ (by simp [Act.eval,Act.put]) hap ?_;simp [Act.eval,Act.put];intro v2 w2 ho hg hx;have HO2:=Lib.hid (OwnBs.app (l:=[]) ho);have HBF:=Lib.hid (below_app (HB.out) hg (HVB.out) (HB.out).size);have HOF:=Lib.hid (World.ownsRow.kept HO.out hg (HNE.out));clear ho hg hx hap)
      | (change (if Region.wanted (Oper.mk (some 45) _ _ _ _ _) _=true then Oper.wp _ _ _ (w1) _ _ else _);have hap:=fun ty=>app_bytes (l:=[]) (B:=w.heap.size) (w1) 24 24 5 5 i0 Tryz.underlying24 Tryz.underlying24 HI.out.1 HI.out.2.1 HI.out.2.2.1 HI.out.2.2.2 (HVC.out) (HS2.out.below (fun _ _ h=>h) (HB.out)) (by simp;omega) (HB.out).size ty;refine step_app (w1) rfl (.tmp 40) (.tmp 44) 24 24 rfl (.slice (some ⟨w.heap.size,0,none⟩) 0 0) (.slice (some ⟨b,off+KX,none⟩) (l.length-KX) (cap-KX)) ?_ (by simp [Act.eval,Act.put]) hap ?_;simp [Act.eval,Act.put];intro v2 w2 ho hg hx;have HO2:=Lib.hid (OwnBs.app (l:=[]) ho);have HBF:=Lib.hid (below_app (HB.out) hg (HVC.out) (HB.out).size);have HOF:=Lib.hid (World.ownsRow.kept HO.out hg (HNE.out));clear ho hg hx hap))
     all_goals
      go_wp2
      go_ret3
      rw [HF.out]
      refine ⟨_,_,rfl,?_,?_,HBF.out⟩
      ·have e:OwnBs 5 w2 w.heap.size v1 ([]++l.take m):=HOF.out
       rw [List.nil_append] at e
       exact e
      ·have e:=HO2.out
       simp only [List.nil_append] at e
       exact e
set_option maxRecDepth 100000 in
set_option maxHeartbeats 8000000 in
theorem PadCutR_nil (a : Option Addr) (cap : Nat) (m k : Nat) (w : World) (hn : m ≤ 8589934591) (hkk : (m + 511) / 512 = k) (ha : a = none → cap = 0) (hm : cap ≤ maxLen) :
 Calls Tryz.prog 126 #[.slice a 0 cap,.int .i64 m] w (RetBB 5 w (padCut [] m)):=by
 have HK:=Lib.hid (fun (w:World)=>PadBlocks_any m w (by unfold i64;omega))
 have HP:=Lib.hid (show padBlocks (m:Int)=(((k:Nat):Int),0) by unfold padBlocks;rw [if_pos (by omega),<-hkk];congr 1)
 by_cases hs:0<k
 ·have HF:=Lib.hid (show padCut [] (m:Int)=([],[],7) by unfold padCut;rw [if_neg (by omega),Int.toNat_natCast,hkk,if_pos (by simp;omega)])
  go_enter Tryz.func126,Tryz.ntmps126
  go_wp2_with (go_at_call 182;refine (HK.out _).mono ?_;rintro e w' ⟨rfl,rfl⟩;rw [HP.out])
  all_goals first|(exfalso;simp at *;omega)|(go_ret3;exact RetBB.err HF.out (Below.refl _ _))
 ·obtain rfl:m=0:=by omega
  obtain rfl:k=0:=by omega
  have HF:=Lib.hid (show padCut [] ((0:Nat):Int)=([],[],0) by unfold padCut zeroB;simp)
  have HOX:Hid (OwnBs 5 (w.alloc (.cells #[] 5)) w.heap.size (.slice (some ⟨w.heap.size,0,none⟩) 0 0) []):=Lib.hid (World.ownsRow_made w #[] 0 (Nat.le_refl _) (by simp) rfl)
  have HBX:=Lib.hid ((Below.refl w.heap.size w).alloc (Nat.le_refl _) (.cells #[] 5))
  have HBB:=Lib.hid (HBX.out.alloc HBX.out.size (.cells #[] 5)).drew
  have HO0:Hid (OwnBs 5 ((w.alloc (.cells #[] 5)).alloc (.cells #[] 5)).drew w.heap.size (.slice (some ⟨w.heap.size,0,none⟩) 0 0) []):=Lib.hid (OwnBs.below (World.ownsRow.alloc HOX.out (.cells #[] 5)) (Below.refl _ _).drew)
  have HO1:Hid (OwnBs 5 ((w.alloc (.cells #[] 5)).alloc (.cells #[] 5)).drew w.heap.size (.slice (some ⟨w.heap.size+1,0,none⟩) 0 0) []):=Lib.hid (by
   have e:=World.ownsRow_made (base:=w.heap.size) (e:=5) (size:=1) (w.alloc (.cells #[] 5)) #[] 0 (by simp) (by simp) rfl
   have e2:OwnBs 5 ((w.alloc (.cells #[] 5)).alloc (.cells #[] 5)) w.heap.size (.slice (some ⟨w.heap.size+1,0,none⟩) 0 0) []:=by simpa [OwnBs] using e
   exact e2.below (Below.refl _ _).drew)
  have hx:a=none\/∃ p,a=some p:=by cases a<;>simp
  rcases hx with rfl|⟨p,rfl⟩
  ·obtain rfl:=ha rfl
   go_enter Tryz.func126,Tryz.ntmps126
   go_wp2_with (go_at_call 182;refine (HK.out _).mono ?_;rintro e w' ⟨rfl,rfl⟩;rw [HP.out])
   go_loop [9] (fun i=>i = .int .i64 0) (fun i=>0)
   case atStart=>rfl
   case round =>
    obtain rfl:=hrel
    go_wp2
    go_region
    all_goals
     go_wp2
     go_ret3
     rw [HF.out]
     first|exact ⟨_,_,rfl,HO0.out,HO1.out,HBB.out⟩|exact ⟨_,_,rfl,HO1.out,HO0.out,HBB.out⟩
  ·go_enter Tryz.func126,Tryz.ntmps126
   go_wp2_with (go_at_call 182;refine (HK.out _).mono ?_;rintro e w' ⟨rfl,rfl⟩;rw [HP.out])
   go_loop [9] (fun i=>i = .int .i64 0) (fun i=>0)
   case atStart=>rfl
   case round =>
    obtain rfl:=hrel
    go_wp2
    go_region
    all_goals
     go_wp2
     go_ret3
     rw [HF.out]
     first|exact ⟨_,_,rfl,HO0.out,HO1.out,HBB.out⟩|exact ⟨_,_,rfl,HO1.out,HO0.out,HBB.out⟩
theorem PadCutR_any {N : Nat} (v : Value) (l : List UInt8) (n : Int) (w : World) (hn : i64 n) (h : SliceC N 1 ByteC w [v] l) (hl : l.length ≤ 1048576) :
 Calls Tryz.prog 126 #[v,.int .i64 n] w (RetBB 5 w (padCut l n)):=by
 by_cases hb:n<0\/8589934591<n
 ·exact PadCutR_bad v l n w hn hb
 ·obtain ⟨m,rfl⟩:∃ m:Nat,n=m:=⟨n.toNat,by omega⟩
  obtain ⟨a,cap,hv,h1,h2,h3,h4,h5⟩:=h
  simp only [List.cons.injEq,and_true] at hv
  subst hv
  by_cases hp:0<l.length
  ·rcases bytes_cases (N:=N) (w:=w) (v := .slice a l.length cap) (l:=l) ⟨a,cap,rfl,h1,h2,h3,h4,h5⟩ with ⟨_,_,_,e⟩|⟨b,off,c2,e,_,_,_,_,hc⟩
   ·rw [e] at hp;simp at hp
   ·simp only [Value.slice.injEq] at e
    obtain ⟨rfl,_,rfl⟩:=e
    exact PadCutR_some b off cap l m _ w (by omega) rfl hl h1 h2 h3 hc
  ·have e:l=[]:=List.eq_nil_of_length_eq_zero (by omega)
   subst e
   exact PadCutR_nil a cap m _ w (by omega) rfl h4 h2
theorem all_zero {l : List UInt8} (h : l.length = 1024) : (∀ x ∈ l,x = 0) ↔ l = List.replicate 1024 0 := by
 rw [List.eq_replicate_iff]
 exact ⟨fun e=>⟨h,e⟩,fun e=>e.2⟩
set_option maxRecDepth 100000 in
theorem Ends_any {N : Nat} (v : Value) (l : List UInt8) (w : World) (h : SliceC N 1 ByteC w [v] l) (hl : l.length ≤ 1048576) :
 Calls Tryz.prog 59 #[v] w fun e w'=>e = .returned (.bool (decide (l=List.replicate 1024 0)))/\Below w.heap.size w w':=by
 have hcv:=conv w h
 have hz:(ofL l).size<=maxLen:=by rw [ofL_size];unfold maxLen;omega
 obtain ⟨a,cap,hv⟩:∃ a cap,v = .slice a l.length cap:=by
  obtain ⟨a,cap,hv,_⟩:=h
  exact ⟨a,cap,by simpa using hv⟩
 subst hv
 clear h
 by_cases h1:l.length=1024
 ·rw [h1] at hcv
  have hd:((l.length:Int)==1024)=true:=by rw [h1];rfl
  by_cases h2:∀ x∈l,x=0
  ·have HF:=Lib.hid (show decide (l=List.replicate 1024 0)=true from decide_eq_true ((all_zero h1).1 h2))
   have HT:=Lib.hid (fun (w:World)=>TrimZ_yes (s:=ofL l) (by rw [ofL_data];exact h2) w hz)
   clear h2 hz
   go_enter Tryz.func59,Tryz.ntmps59
   go_wp2_with (go_at_call 130;refine (HT.out _).mono ?_;rintro e w0 ⟨rfl,hb⟩;have HB:=Lib.hid hb;clear hb)
   go_ret
   exact ⟨ret_b HF.out,HB.out⟩
  ·have HF:=Lib.hid (show decide (l=List.replicate 1024 0)=false from decide_eq_false (fun e=>h2 ((all_zero h1).2 e)))
   have HT:=Lib.hid (fun (w:World)=>TrimZ_no (s:=ofL l) (by rw [ofL_data];exact h2) w hz)
   clear h2 hz
   go_enter Tryz.func59,Tryz.ntmps59
   go_wp2_with (go_at_call 130;refine (HT.out _).mono ?_;rintro e w0 ⟨hb,t,rfl,ht⟩;have HB:=Lib.hid hb;clear hb)
   go_ret
   exact ⟨ret_b HF.out,HB.out⟩
 ·have HF:=Lib.hid (show decide (l=List.replicate 1024 0)=false from decide_eq_false (fun e=>h1 (by rw [e];simp)))
  have hd:((l.length:Int)==1024)=false:=by rw [beq_eq_false_iff_ne];omega
  clear hcv hz
  go_enter Tryz.func59,Tryz.ntmps59
  go_wp2
  go_ret
  exact ⟨ret_b HF.out,Below.refl _ _⟩
end Go.Proofs.YtaffgndickdbiaaGreatDoor
