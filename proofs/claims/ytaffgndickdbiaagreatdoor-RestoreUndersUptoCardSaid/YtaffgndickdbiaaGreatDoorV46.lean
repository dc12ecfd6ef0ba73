/- A part of the proof. -/
import Derived.Test.YtaffgndickdbiaaGreatDoorV45
set_option linter.unusedVariables false
set_option linter.unusedSimpArgs false
set_option maxRecDepth 100000
set_option maxHeartbeats 4000000
namespace Go.Creel
open Go.RowKit
theorem A9t {l : List Nod} (h : ¬ A0a l = 0) : A3n l = ([],A0a l) := by unfold A3n; rw [if_pos h]
theorem A9p {l : List Nod} (h : A0a l = 0) : A3n l = (A4t l l.length,0) := by unfold A3n; rw [if_neg (by simpa using h)]
theorem own_ge {t : TypeId} {w : World} {B : Nat} {v : Value} {l : List Int} (h : A3s t w B v l) (x : Nat) (hx : v.ownBlock = some x) : B ≤ x := by
 rcases h.form with ⟨rfl,_⟩|⟨g,cap,rfl,hg,_⟩
 ·cases hx
 ·simp [Value.ownBlock] at hx;omega
theorem F1o {t : TypeId} {w : World} {B mb : Nat} {v : Value} {l : List Int} (h : A3s t w B v l) (hB : mb < B) : v.ownBlock = none ∨ v.ownBlock ≠ some mb := by
 rcases h.form with ⟨rfl,_⟩|⟨g,cap,rfl,hg,_⟩
 ·exact .inl rfl
 ·refine .inr ?_;intro e;simp [Value.ownBlock] at e;omega
theorem F2f {l : List Nod} {k q : Nat} (hq : q < k) (h : (nk l k).same ≠ 0) (he : (nk l q).same = (nk l k).same) (hn : ∀ j,j < q → (nk l j).same ≠ (nk l k).same) : A2e l k = q := by
 refine B8o h ?_;unfold A8x;rw [List.find?_range_eq_some];refine ⟨by simp [he],List.mem_range.2 hq,fun j hj=>by simpa using hn j hj⟩
theorem E7t {l : List Nod} {k : Nat} (hn : ∀ j,j < k → (nk l j).same ≠ (nk l k).same) : A2e l k = k := by
 by_cases h:(nk l k).same=0
 ·exact A0v h
 ·refine B0p h ?_;unfold A8x;rw [List.find?_eq_none];intro j hj;simpa using hn j (List.mem_range.1 hj)
theorem C8d {l : List Nod} (h : ¬ A0a l = 0) : A4x l = ([],A0a l) := by unfold A4x; rw [if_pos h]
theorem B0b {l : List Nod} (h : A0a l = 0) : A4x l = (B0i l l.length,0) := by unfold A4x; rw [if_neg (by simpa using h)]
theorem B3k (l : List Nod) (k : Nat) : (B0i l k).length = k := by simp [B0i]
theorem C2u (l : List Nod) (k : Nat) : B0i l (k + 1) = B0i l k ++ [(A1z l l.length (A2e l k) : Int)] := by unfold B0i; rw [List.range_succ,List.map_append]; rfl
theorem E3k (l : List Nod) (k f : Nat) : A1z l k f ≤ k := by
 unfold A1z;exact Nat.le_trans (List.length_filter_le _ _) (by simp)
theorem D5h {x : Nod} (h : A6c x = 0) : 0 ≤ x.same := by
 unfold A6c A0k at h;split at h
 ·rename_i h1;exact absurd h h1
 ·split at h
  ·rename_i h1;exact absurd h h1
  ·split at h
   ·split at h
    ·cases h
    ·rename_i h1;omega
   ·split at h
    ·split at h
     ·cases h
     ·rename_i h1;omega
    ·cases h
def D0m (l : List Nod) (k : Nat) (m : List (Int × Value)) : Prop := ∀ f : Nat,A2v (f : Int) m = if A1z l k f = 0 then none else some (.int .i64 (A1z l k f : Int))
theorem D0m.start (l : List Nod) : D0m l 0 [] := fun f => by simp [A2v,A1z]
theorem D0m.put {l : List Nod} {k : Nat} {m : List (Int × Value)} (h : D0m l k m) : D0m l (k + 1) (A6f (A2e l k : Int) (.int .i64 ((A1z l k (A2e l k) : Int) + 1)) m) := by
 intro f;rw [B4h,B5k];by_cases e:A2e l k=f
 ·subst e;rw [if_pos rfl,if_pos rfl,if_neg (by omega)];rfl
 ·rw [if_neg (fun h=>e (by omega)),if_neg e,Nat.add_zero];exact h f
theorem B9v {l : List Nod} {n k : Nat} (h : k < n) : D4q (A4t l n) k = (A2e l k : Int) := by
 rw [C6s (by rw [A0s];exact h)];simp [A4t]
end Go.Creel
namespace Go.Proofs.YtaffgndickdbiaaGreatDoor
open Go.Creel Go.RowKit
theorem F7t (l : List Nod) (k tb mb B : Nat) (m : List (Int × Value)) (v : Value) (q : List Int) (w0 w : World) (hb0 : Below w0.heap.size w0 w) (hmb : w0.heap.size ≤ mb) (hB : mb < B) (htb : tb ≠ mb) (hc : w.cell? ⟨tb,0,none⟩ = some (.map (some mb))) (hm : A0i (fun n : Int => Value.int .i64 n) w mb m) (hf : D1y l k m) (ho : A3s 3 w B v q) :
 Calls Tryz.prog 197 #[.pointer (some ⟨tb,0,none⟩),(nk l k).val,.int .i64 (k:Int)] w fun e w'=>e=.returned (.int .i64 (A2e l k:Int))/\Below w0.heap.size w0 w'/\w.heap.size<=w'.heap.size/\w'.cell? ⟨tb,0,none⟩=some (.map (some mb))/\A3s 3 w' B v q/\∃ m',A0i (fun n:Int=>Value.int .i64 n) w' mb m'/\D1y l (k+1) m':=by
 have hlt:=World.block_lt_of_cell? w _ hc;by_cases h0:(nk l k).same=0
 ·refine (F5j tb (nk l k) k w h0).mono ?_;rintro e w' ⟨rfl,hb⟩;exact ⟨by rw [A0v h0],hb0.trans (hb.mono hb0.size),hb.size,(hb.cell (p:=⟨tb,0,none⟩) hlt).trans hc,ho.below hb,m,hm.below hb hm.lt,hf.skip h0⟩
 ·have ha:=hf _ h0;cases hj:A8x l k (nk l k).same with
  | some j =>
    rw [hj] at ha;refine (F6t tb mb m (nk l k) k j w h0 hc hm ha).mono ?_;rintro e w' ⟨rfl,hb⟩;exact ⟨by rw [B8o h0 hj],hb0.trans (hb.mono hb0.size),hb.size,(hb.cell (p:=⟨tb,0,none⟩) hlt).trans hc,ho.below hb,m,hm.below hb hm.lt,hf.has hj⟩
  | none =>
    rw [hj] at ha;refine (F5t tb mb m (nk l k) k w h0 hc hm ha).mono ?_;rintro e w' ⟨rfl,hm',hg⟩;refine ⟨by rw [B0p h0 hj],hb0.grown hg hb0.size (fun x hx=>by cases hx;exact hmb),hg.size,?_,World.ownsRow.kept ho hg (F1o ho hB),_,hm',hf.put h0 hj⟩;exact hg.cell hc (by simpa using htb)
theorem F9t (b off cap : Nat) (l : List Nod) (w : World) (hM : A1n w) (hpos : 0 < l.length) (hle : l.length ≤ cap) (hm : cap ≤ maxLen) (hc : A5p w b off l) (h : A4a maxLen 12 (B6b maxLen) w [.slice (some ⟨b,off,none⟩) l.length cap] l) :
 Calls Tryz.prog 136 #[.slice (some ⟨b,off,none⟩) l.length cap] w (C4z 3 w (A3n l)):=by
 obtain ⟨i0,hi,hz0,hz1,hz2⟩:=info_parts C4p;have HI:=Hi (And.intro hi (And.intro hz0 (And.intro hz1 hz2)));have H:=Hi h;have HM:=Hi hM;have HCW:=Hi hc;unfold maxLen at hm;clear h hM hc hi hz0 hz1 hz2;have hmm := @run_makeMap Tryz.prog;by_cases hE:A0a l=0
 ·have HE:=Hi hE;have HF:=Hi (A9p hE);have hfew:=(A2b hE).1;clear hE;go_enter Tryz.func136,Tryz.ntmps136;go_wp2_with fail
  refine (A9h _ l _ HM.out H.out).mono ?_;rintro e wa ⟨rfl,hb⟩;have HBA0:=Hi hb;have HC:=Hi (HCW.out.below hb);rw [HE.out];clear hb;have HB1:=Hi ((Below.refl wa.heap.size wa).alloc lr (.map #[] 0));have HM1:=Hi (A0i.made (fun n:Int=>Value.int .i64 n) wa);go_wp2;clear hmm;have HC2:Hid (((wa.alloc (.map #[] 0)).alloc (.cells #[.map (some wa.heap.size)] 212)).cell? ⟨wa.heap.size+1,0,none⟩=some (.map (some wa.heap.size))):=Hi (by
   have e:(wa.alloc (.map #[] 0)).heap.size=wa.heap.size+1:=by simp
   rw [<-e];simp [World.cell?_alloc_new])
  have HB2:=Hi (HB1.out.alloc HB1.out.size (.cells #[.map (some wa.heap.size)] 212));have HM2:=Hi (HM1.out.below ((Below.refl _ _).alloc lr (.cells #[.map (some wa.heap.size)] 212)) HM1.out.lt);generalize hmb:wa.heap.size=mb at HC2 HM2;have HMB:=Hi hmb;have HB2m:Hid (Below wa.heap.size wa ((wa.alloc (.map #[] 0)).alloc (.cells #[.map (some mb)] 212))):=Hi (by rw [<-hmb];exact HB2.out);go_loopw [6,7,8,19] (fun v _ _ i wr=>∃ k:Nat,k<=l.length/\i=.int .i64 k/\Hid (A3s 3 wr (mb+2) v (A4t l k))/\Hid (Below wa.heap.size wa wr)/\Hid (mb+2<=wr.heap.size)/\Hid (wr.cell? ⟨mb+1,0,none⟩=some (.map (some mb)))/\Hid (∃ m,A0i (fun n:Int=>Value.int .i64 n) wr mb m/\D1y l k m)) (fun _ _ _ i _=>l.length-(intOf i).toNat)
  case atStart=>exact ⟨0,by omega,rfl,Hi (World.ownsRow_nil _ _ _ 1),HB2m,Hi (by rw [<-HMB.out];simp),HC2,Hi ⟨[],HM2.out,D1y.start l⟩⟩
  case round =>
   obtain ⟨k,hk,rfl,HOW,HB,HSZ,HCT,HMM⟩:=hrel;have hfl:=A0s l k;by_cases hlt:k<l.length
   ·obtain ⟨h0,h1,h2,h3,h4,h5,h6,h7,h8,h9,h10,h11⟩:=(HC.out.below HB.out) k hlt;go_wp2_with fail
    have hbx:=(Below.refl wr.heap.size wr).alloc lr (A4h (nk l k));obtain ⟨m,hm1,hm2⟩:=HMM.out;refine (F7t l k (mb+1) mb (mb+2) m _ _ wa _ (HB.out.alloc HB.out.size (A4h (nk l k))) (by rw [HMB.out];exact Nat.le_refl _) (by omega) (by omega) ((hbx.cell (p:=⟨mb+1,0,none⟩) (Nat.lt_of_lt_of_le (Nat.lt_succ_self _) HSZ.out)).trans HCT.out) (hm1.below hbx hm1.lt) hm2 (HOW.out.below hbx)).mono ?_;rintro e w3 ⟨rfl,hb,hsz,hct,ho,hmm⟩;have HB3:=Hi hb;have HSZ3:=Hi (Nat.le_trans (Nat.le_trans HSZ.out hbx.size) hsz);have HA:=Hi ((Below.refl w3.heap.size w3).alloc lr (.cells #[.int .i64 (A2e l k:Int)] 3));have HOA:=Hi (A3s.below ho HA.out);have HBA:=Hi (hb.trans (HA.out.mono hb.size));have HSA:=Hi (Nat.le_trans HSZ3.out HA.out.size);have HCA:=Hi ((HA.out.cell (p:=⟨mb+1,0,none⟩) (World.block_lt_of_cell? w3 _ hct)).trans hct);have HMA:=Hi (show ∃ m,A0i (fun n:Int=>Value.int .i64 n) (w3.alloc (.cells #[.int .i64 (A2e l k:Int)] 3)) mb m/\D1y l (k+1) m by
     obtain ⟨m',a,c⟩:=hmm;exact ⟨m',a.below HA.out a.lt,c⟩)
    have HS:=Hi (B5t l k);clear hb hsz hct ho hmm hbx hm1 hm2 h0 h1 h2 h3 h4 h5 h6 h7 h8 h9 h10 h11;generalize A2e l k=n at *;go_wp2_with (at_builtin;refine A9b _ rfl (.tmp 24) (.tmp 29) 34 34 rfl _ _ rfl rfl (n:=(A4t l k).length) (fun ty=>A8g _ _ _ _ (mb+2) 3 i0 (.int .i64 0) 1 8 Tryz.underlying34 HI.out.1 HI.out.2.1 HI.out.2.2.1 HI.out.2.2.2 rfl (by decide) _ _ _ _ _ _ HOA.out (B3z w3 _ _ _ Tryz.underlying34 _ rfl) (by unfold maxLen;omega) (by omega) HSA.out) ?_;intro v1 w4 ho hg _)
    have HO4:=Hi (A3s.app (m:=[(n:Int)]) ho);have HNE:=Hi (own_ge HOA.out);have HB4:=Hi (HBA.out.grown hg HBA.out.size (fun x hx=>by have:=HNE.out x hx;rw [HMB.out];omega));have HS4:=Hi (Nat.le_trans HSA.out hg.size);have HC4:=Hi (hg.cell HCA.out (fun e=>by have:=HNE.out _ e.symm;simp at this<;>omega));have HM4:=Hi (show ∃ m,A0i (fun n:Int=>Value.int .i64 n) w4 mb m/\D1y l (k+1) m by
     obtain ⟨m',a,c⟩:=HMA.out;exact ⟨m',a.of_heap (hg.block mb a.lt (fun e=>by have:=HNE.out _ e.symm;omega)),c⟩)
    clear ho hg;go_wp2;go_roundw
    case rel=>exact ⟨k+1,by omega,by go_num,Hi (by rw [HS.out];exact HO4.out),HB4,HS4,HC4,HM4⟩
    case measure=>simp [intOf];omega
   ·obtain rfl:k=l.length:=by omega
    have HGE:=Hi (show w.heap.size<=mb+2 by have:=HBA0.out.size;have:=HMB.out;omega);go_wp2;go_ret2;rw [HF.out];exact ⟨_,rfl,HOW.out.mono HGE.out,HBA0.out.trans (HB.out.mono HBA0.out.size)⟩
 ·have HF:=Hi (A9t hE);have HE:=Hi hE;clear hE hmm;go_enter Tryz.func136,Tryz.ntmps136;go_wp2_with fail
  refine (A9h _ l _ HM.out H.out).mono ?_;rintro e wc ⟨rfl,hb⟩;have HBC:=Hi hb;clear hb;have hne:=HE.out;generalize A0a l=q at *;go_wp2;go_ret2;rw [HF.out];exact ⟨_,rfl,World.ownsRow_nil _ _ _ 1,HBC.out⟩
theorem F8t (b off cap : Nat) (l : List Nod) (w : World) (hpos : 0 < l.length) (hle : l.length ≤ cap) (hm : cap ≤ maxLen) (hc : A5p w b off l) (h : A4a maxLen 12 (B6b maxLen) w [.slice (some ⟨b,off,none⟩) l.length cap] l) :
 Calls Tryz.prog 143 #[.slice (some ⟨b,off,none⟩) l.length cap] w (C4z 3 w (A3n l)):=by
 obtain ⟨i0,hi,hz0,hz1,hz2⟩:=info_parts C4p;have HI:=Hi (And.intro hi (And.intro hz0 (And.intro hz1 hz2)));have H:=Hi h;have HCW:=Hi hc;unfold maxLen at hm;clear h hc hi hz0 hz1 hz2;by_cases hE:A0a l=0
 ·have HE:=Hi hE;have HF:=Hi (A9p hE);have hfew:=(A2b hE).1;clear hE;go_enter Tryz.func143,Tryz.ntmps143;go_wp2_with fail
  refine (A0e _ l _ H.out).mono ?_;rintro e wa ⟨rfl,hb⟩;have HBA0:=Hi hb;have HC:=Hi (HCW.out.below hb);rw [HE.out];clear hb;go_wp2;go_loopw [5,6,7] (fun v i _ wr=>∃ k:Nat,k<=l.length/\i=.int .i64 k/\Hid (A3s 3 wr wa.heap.size v (A4t l k))/\Hid (Below wa.heap.size wa wr)) (fun _ i _ _=>l.length-(intOf i).toNat)
  case atStart=>exact ⟨0,by omega,rfl,Hi (World.ownsRow_nil _ _ _ 1),Hi (Below.refl _ _)⟩
  case round =>
   obtain ⟨k,hk,rfl,HOW,HB⟩:=hrel;have hfl:=A0s l k;by_cases hlt:k<l.length
   ·have hkl:(k:Int)<(l.length:Int):=by omega
    have HCB:=Hi (HC.out.below HB.out);obtain ⟨wo,hwo⟩:∃ x:World,x=wr:=⟨_,rfl⟩;go_wp2;go_loopw [7] (fun i wr2=>∃ q:Nat,q<=k/\i=.int .i64 q/\Hid (∀ j,j<q->(nk l k).same≠0->(nk l j).same≠(nk l k).same)/\Hid (Below wr.heap.size wr wr2)) (fun i _=>k-(intOf i).toNat)
    case atStart=>exact ⟨0,by omega,rfl,Hi fun j hj=>absurd hj (by omega),Hi (Below.refl _ _)⟩
    case round =>
     obtain ⟨q,hq,rfl,HD,HBI⟩:=hrel;obtain ⟨_,_,x2,_⟩:=(HCB.out.below HBI.out) k hlt;by_cases hqk:q<k
     ·obtain ⟨_,_,y2,_⟩:=(HCB.out.below HBI.out) q (by omega);have hql:(q:Int)<(l.length:Int):=by omega
      by_cases h0:(nk l k).same=0
      ·have hs0:((nk l k).same==0)=true:=by rw [h0];rfl
       have HZ:=Hi h0;clear h0;go_wp2;go_quiet (fail)
       go_wp2;go_roundw
       case rel=>exact ⟨q+1,by omega,by go_num,Hi fun j hj h=>absurd HZ.out h,Hi (HBI.out.trans (A6a _ _ _))⟩
       case measure=>simp [intOf];omega
      ·have hs0:((nk l k).same==0)=false:=by rw [beq_eq_false_iff_ne];exact h0
       by_cases he:(nk l q).same=(nk l k).same
       ·have HIX:=Hi (F2f hqk h0 he (fun j hj=>HD.out j hj h0));have hsq:((nk l q).same != (nk l k).same)=false:=by rw [he];simp
        clear h0 he;go_wp2;go_quiet (fail)
        have HBX:=Hi (HBI.out.trans (A6a _ _ nq));generalize wr.drewN nq=wx at *;have HA:=Hi ((Below.refl wx.heap.size wx).alloc lr (.cells #[.int .i64 (q:Int)] 3));have HB5:=Hi (HB.out.trans (HBX.out.mono HB.out.size));have HOA:=Hi (A3s.below (HOW.out.below HBX.out) HA.out);have HBA:=Hi (HB5.out.trans (HA.out.mono HB5.out.size));have HSA:=Hi (HBA.out.size);go_wp2_with (at_builtin;refine A9b _ rfl (.tmp 45) (.tmp 47) 34 34 rfl _ _ rfl rfl (n:=(A4t l k).length) (fun ty=>A8g _ _ _ _ wa.heap.size 3 i0 (.int .i64 0) 1 8 Tryz.underlying34 HI.out.1 HI.out.2.1 HI.out.2.2.1 HI.out.2.2.2 rfl (by decide) _ _ _ _ _ _ HOA.out (B3z wx _ _ _ Tryz.underlying34 _ rfl) (by unfold maxLen;omega) (by omega) HSA.out) ?_;intro v1 w4 ho hg _)
        have HO4:=Hi (A3s.app (m:=[(q:Int)]) ho);have HB4:=Hi (A7b HBA.out hg HOA.out HSA.out);clear ho hg;go_wp2;go_roundw
        case rel=>exact ⟨k+1,by omega,by go_num,Hi (by rw [B5t,HIX.out];exact HO4.out),HB4⟩
        case measure=>simp [intOf];omega
       ·have HNE:=Hi he;have hsq:((nk l q).same != (nk l k).same)=true:=by rw [bne_iff_ne];exact he
        clear h0 he;go_wp2;go_quiet (fail)
        go_wp2;go_roundw
        case rel=>exact ⟨q+1,by omega,by go_num,Hi fun j hj h=>by
         by_cases e:j=q
         ·rw [e];exact HNE.out
         ·exact HD.out j (by omega) h,Hi (HBI.out.trans (A6a _ _ _))⟩
        case measure=>simp [intOf];omega
     ·obtain rfl:q=k:=by omega
      have HIX:=Hi (show A2e l q=q by
       by_cases h0:(nk l q).same=0
       ·exact A0v h0
       ·exact E7t (fun j hj=>HD.out j hj h0))
      have hdq:decide ((q:Int)<(q:Int))=false:=by simp
      go_wp2;go_quiet (fail)
      have HBX:=Hi (HBI.out.trans (A6a _ _ nq));generalize wr.drewN nq=wx at *;have HA:=Hi ((Below.refl wx.heap.size wx).alloc lr (.cells #[.int .i64 (q:Int)] 3));have HB5:=Hi (HB.out.trans (HBX.out.mono HB.out.size));have HOA:=Hi (A3s.below (HOW.out.below HBX.out) HA.out);have HBA:=Hi (HB5.out.trans (HA.out.mono HB5.out.size));have HSA:=Hi (HBA.out.size);go_wp2_with (at_builtin;refine A9b _ rfl (.tmp 45) (.tmp 47) 34 34 rfl _ _ rfl rfl (n:=(A4t l q).length) (fun ty=>A8g _ _ _ _ wa.heap.size 3 i0 (.int .i64 0) 1 8 Tryz.underlying34 HI.out.1 HI.out.2.1 HI.out.2.2.1 HI.out.2.2.2 rfl (by decide) _ _ _ _ _ _ HOA.out (B3z wx _ _ _ Tryz.underlying34 _ rfl) (by unfold maxLen;omega) (by omega) HSA.out) ?_;intro v1 w4 ho hg _)
      have HO4:=Hi (A3s.app (m:=[(q:Int)]) ho);have HB4:=Hi (A7b HBA.out hg HOA.out HSA.out);clear ho hg;go_wp2;go_roundw
      case rel=>exact ⟨q+1,by omega,by go_num,Hi (by rw [B5t,HIX.out];exact HO4.out),HB4⟩
      case measure=>simp [intOf];omega
   ·obtain rfl:k=l.length:=by omega
    go_wp2;go_ret2;rw [HF.out];exact ⟨_,rfl,HOW.out.mono HBA0.out.size,HBA0.out.trans (HB.out.mono HBA0.out.size)⟩
 ·have HF:=Hi (A9t hE);have HE:=Hi hE;clear hE;go_enter Tryz.func143,Tryz.ntmps143;go_wp2_with fail
  refine (A0e _ l _ H.out).mono ?_;rintro e wc ⟨rfl,hb⟩;have HBC:=Hi hb;clear hb;have hne:=HE.out;generalize A0a l=q at *;go_wp2;go_ret2;rw [HF.out];exact ⟨_,rfl,World.ownsRow_nil _ _ _ 1,HBC.out⟩
theorem F0j (b off cap : Nat) (l : List Nod) (w : World) (hpos : 0 < l.length) (hle : l.length ≤ cap) (hm : cap ≤ maxLen) (hc : A5p w b off l) (h : A4a maxLen 12 (B6b maxLen) w [.slice (some ⟨b,off,none⟩) l.length cap] l) :
 Calls Tryz.prog 144 #[.slice (some ⟨b,off,none⟩) l.length cap] w (C4z 3 w (A4x l)):=by
 obtain ⟨i0,hi,hz0,hz1,hz2⟩:=info_parts C4p;have HI:=Hi (And.intro hi (And.intro hz0 (And.intro hz1 hz2)));have H:=Hi h;have HCW:=Hi hc;unfold maxLen at hm;clear h hc hi hz0 hz1 hz2;by_cases hE:A0a l=0
 ·have HE:=Hi hE;have HF:=Hi (B0b hE);have hfew:=(A2b hE).1;have HSM:=Hi (fun (k:Nat) (hk:k<l.length)=>D5h ((A2b hE).2 k hk));clear hE;go_enter Tryz.func144,Tryz.ntmps144;go_wp2_with fail
  refine (A0e _ l _ H.out).mono ?_;rintro e wa ⟨rfl,hb⟩;have HBA0:=Hi hb;have HC:=Hi (HCW.out.below hb);rw [HE.out];clear hb;go_wp2;go_loopw [5,6,7,8] (fun v i _ _ wr=>∃ k:Nat,k<=l.length/\i=.int .i64 k/\Hid (A3s 3 wr wa.heap.size v (B0i l k))/\Hid (Below wa.heap.size wa wr)) (fun _ i _ _ _=>l.length-(intOf i).toNat)
  case atStart=>exact ⟨0,by omega,rfl,Hi (World.ownsRow_nil _ _ _ 1),Hi (Below.refl _ _)⟩
  case round =>
   obtain ⟨k,hk,rfl,HOW,HB⟩:=hrel;have hfl:=B3k l k;by_cases hlt:k<l.length
   ·have hkl:(k:Int)<(l.length:Int):=by omega
    have HCB:=Hi (HC.out.below HB.out);have hsk:=HSM.out k hlt;go_wp2;go_loopw [7,8] (fun c i wr2=>∃ q n:Nat,q<=l.length/\i=.int .i64 q/\c=.int .i64 n/\Hid (n=A1z l q (A2e l k))/\Hid (Below wr.heap.size wr wr2)) (fun _ i _=>l.length-(intOf i).toNat)
    case atStart=>exact ⟨0,0,by omega,rfl,rfl,Hi rfl,Hi (Below.refl _ _)⟩
    case round =>
     obtain ⟨q,n,hq,rfl,rfl,HN,HBI⟩:=hrel;have hnq:=E3k l q (A2e l k);rw [<-HN.out] at hnq;by_cases hql:q<l.length
     ·obtain ⟨_,_,x2,_⟩:=(HCB.out.below HBI.out) k hlt;obtain ⟨_,_,y2,_⟩:=(HCB.out.below HBI.out) q hql;have hqi:(q:Int)<(l.length:Int):=by omega
      by_cases hqk:q=k
      ·have hd:((q:Int)==(k:Int))=true:=by rw [hqk];simp
       have HN2:=Hi (show n+1=A1z l (q+1) (A2e l k) by rw [B5k,if_pos (C0e.2 (.inl hqk)),HN.out]);go_wp2;go_quiet (fail)
       go_wp2;go_roundw
       case rel=>exact ⟨q+1,n+1,by omega,by go_num,by go_num,HN2,Hi (HBI.out.trans (A6a _ _ _))⟩
       case measure=>simp [intOf];omega
      ·have hd:((q:Int)==(k:Int))=false:=by rw [beq_eq_false_iff_ne];omega
       by_cases hs0:(nk l k).same=0
       ·have hg:decide (0<(nk l k).same)=false:=by rw [hs0];rfl
        have HN2:=Hi (show n=A1z l (q+1) (A2e l k) by rw [B5k,if_neg (fun e=>absurd (C0e.1 e) (by rintro (e|⟨e,_⟩);exact hqk e;exact e hs0)),HN.out];rfl);go_wp2;go_quiet (fail)
        go_wp2;go_roundw
        case rel=>exact ⟨q+1,n,by omega,by go_num,rfl,HN2,Hi (HBI.out.trans (A6a _ _ _))⟩
        case measure=>simp [intOf];omega
       ·have hg:decide (0<(nk l k).same)=true:=decide_eq_true (by omega);have hg2:0<(nk l k).same:=by omega
        by_cases he:(nk l q).same=(nk l k).same
        ·have hsq:((nk l q).same==(nk l k).same)=true:=by rw [he];simp
         have HN2:=Hi (show n+1=A1z l (q+1) (A2e l k) by rw [B5k,if_pos (C0e.2 (.inr ⟨hs0,he⟩)),HN.out]);go_wp2;go_quiet (fail)
         go_wp2;go_roundw
         case rel=>exact ⟨q+1,n+1,by omega,by go_num,by go_num,HN2,Hi (HBI.out.trans (A6a _ _ _))⟩
         case measure=>simp [intOf];omega
        ·have hsq:((nk l q).same==(nk l k).same)=false:=by rw [beq_eq_false_iff_ne];exact he
         have HN2:=Hi (show n=A1z l (q+1) (A2e l k) by rw [B5k,if_neg (fun e=>absurd (C0e.1 e) (by rintro (e|⟨_,e⟩);exact hqk e;exact he e)),HN.out];rfl);go_wp2;go_quiet (fail)
         go_wp2;go_roundw
         case rel=>exact ⟨q+1,n,by omega,by go_num,rfl,HN2,Hi (HBI.out.trans (A6a _ _ _))⟩
         case measure=>simp [intOf];omega
     ·obtain rfl:l.length=q:=by omega
      have HA:=Hi ((Below.refl wr.heap.size wr).alloc lr (.cells #[.int .i64 (n:Int)] 3));have HB5:=Hi (HB.out.trans (HBI.out.mono HB.out.size));have HOA:=Hi (A3s.below (HOW.out.below HBI.out) HA.out);have HBA:=Hi (HB5.out.trans (HA.out.mono HB5.out.size));have HSA:=Hi (HBA.out.size);go_wp2_with (at_builtin;refine A9b _ rfl (.tmp 52) (.tmp 54) 34 34 rfl _ _ rfl rfl (n:=(B0i l k).length) (fun ty=>A8g _ _ _ _ wa.heap.size 3 i0 (.int .i64 0) 1 8 Tryz.underlying34 HI.out.1 HI.out.2.1 HI.out.2.2.1 HI.out.2.2.2 rfl (by decide) _ _ _ _ _ _ HOA.out (B3z wr _ _ _ Tryz.underlying34 _ rfl) (by unfold maxLen;omega) (by omega) HSA.out) ?_;intro v1 w4 ho hg _)
      have HO4:=Hi (A3s.app (m:=[(n:Int)]) ho);have HB4:=Hi (A7b HBA.out hg HOA.out HSA.out);clear ho hg;go_wp2;go_roundw
      case rel=>exact ⟨k+1,by omega,by go_num,Hi (by rw [C2u,<-HN.out];exact HO4.out),HB4⟩
      case measure=>simp [intOf];omega
   ·obtain rfl:k=l.length:=by omega
    go_wp2;go_ret2;rw [HF.out];exact ⟨_,rfl,HOW.out.mono HBA0.out.size,HBA0.out.trans (HB.out.mono HBA0.out.size)⟩
 ·have HF:=Hi (C8d hE);have HE:=Hi hE;clear hE;go_enter Tryz.func144,Tryz.ntmps144;go_wp2_with fail
  refine (A0e _ l _ H.out).mono ?_;rintro e wc ⟨rfl,hb⟩;have HBC:=Hi hb;clear hb;have hne:=HE.out;generalize A0a l=q at *;go_wp2;go_ret2;rw [HF.out];exact ⟨_,rfl,World.ownsRow_nil _ _ _ 1,HBC.out⟩
theorem F8j (a : Option Addr) (cap : Nat) (w : World) (hM : A1n w) (h : A4a maxLen 12 (B6b maxLen) w [.slice a 0 cap] []) :
 Calls Tryz.prog 136 #[.slice a 0 cap] w (C4z 3 w (A3n [])):=by
 have HM:=Hi hM;have H:=Hi h;have HF:=Hi (show A3n []=([],0) from A9p A3g);have hmm := @run_makeMap Tryz.prog;clear h hM;go_enter Tryz.func136,Tryz.ntmps136;go_wp2_with fail
 refine (A9h _ [] _ HM.out H.out).mono ?_;rintro e wa ⟨rfl,hb⟩;rw [A3g];have HB:=Hi hb;clear hb;have HB1:=Hi ((HB.out.alloc HB.out.size (.map #[] 0)));have HB2:=Hi (HB1.out.alloc HB1.out.size (.cells #[.map (some wa.heap.size)] 212));go_wp2
 go_loop [6,7,8,19] (fun v _ _ i=>i=.int .i64 0/\v=.slice none 0 0) (fun _ _ _ _=>0)
 case atStart=>exact ⟨rfl,rfl⟩
 case round =>
  obtain ⟨rfl,rfl⟩:=hrel;go_wp2;go_ret2;rw [HF.out];exact ⟨_,rfl,World.ownsRow_nil _ _ _ 1,HB2.out⟩
theorem C9x (v : Value) (l : List Nod) (w : World) (hM : A1n w) (h : A4a maxLen 12 (B6b maxLen) w [v] l) :
 Calls Tryz.prog 136 #[v] w (C4z 3 w (A3n l)):=by
 rcases A1g h with ⟨a,cap,rfl,rfl,_⟩|⟨b,off,cap,rfl,h1,h2,h3,_,h4,h5⟩
 ·exact F8j a cap w hM h
 ·exact F9t b off cap l w hM h1 h2 h3 h4 h
theorem F6j (a : Option Addr) (cap : Nat) (w : World) (h : A4a maxLen 12 (B6b maxLen) w [.slice a 0 cap] []) :
 Calls Tryz.prog 143 #[.slice a 0 cap] w (C4z 3 w (A3n [])):=by
 have H:=Hi h;have HF:=Hi (show A3n []=([],0) from A9p A3g);clear h;go_enter Tryz.func143,Tryz.ntmps143;go_wp2_with fail
 refine (A0e _ [] _ H.out).mono ?_;rintro e wa ⟨rfl,hb⟩;rw [A3g];have HB:=Hi hb;clear hb;go_wp2
 go_loop [5,6,7] (fun v i _=>i=.int .i64 0/\v=.slice none 0 0) (fun _ _ _=>0)
 case atStart=>exact ⟨rfl,rfl⟩
 case round =>
  obtain ⟨rfl,rfl⟩:=hrel;go_wp2;go_ret2;rw [HF.out];exact ⟨_,rfl,World.ownsRow_nil _ _ _ 1,HB.out⟩
theorem E7w (a : Option Addr) (cap : Nat) (w : World) (h : A4a maxLen 12 (B6b maxLen) w [.slice a 0 cap] []) :
 Calls Tryz.prog 144 #[.slice a 0 cap] w (C4z 3 w (A4x [])):=by
 have H:=Hi h;have HF:=Hi (show A4x []=([],0) from B0b A3g);clear h;go_enter Tryz.func144,Tryz.ntmps144;go_wp2_with fail
 refine (A0e _ [] _ H.out).mono ?_;rintro e wa ⟨rfl,hb⟩;rw [A3g];have HB:=Hi hb;clear hb;go_wp2
 go_loop [5,6,7,8] (fun v i _ _=>i=.int .i64 0/\v=.slice none 0 0) (fun _ _ _ _=>0)
 case atStart=>exact ⟨rfl,rfl⟩
 case round =>
  obtain ⟨rfl,rfl⟩:=hrel;go_wp2;go_ret2;rw [HF.out];exact ⟨_,rfl,World.ownsRow_nil _ _ _ 1,HB.out⟩
theorem D6x (v : Value) (l : List Nod) (w : World) (h : A4a maxLen 12 (B6b maxLen) w [v] l) :
 Calls Tryz.prog 143 #[v] w (C4z 3 w (A3n l)):=by
 rcases A1g h with ⟨a,cap,rfl,rfl,_⟩|⟨b,off,cap,rfl,h1,h2,h3,_,h4,h5⟩
 ·exact F6j a cap w h
 ·exact F8t b off cap l w h1 h2 h3 h4 h
theorem E8w (v : Value) (l : List Nod) (w : World) (h : A4a maxLen 12 (B6b maxLen) w [v] l) :
 Calls Tryz.prog 144 #[v] w (C4z 3 w (A4x l)):=by
 rcases A1g h with ⟨a,cap,rfl,rfl,_⟩|⟨b,off,cap,rfl,h1,h2,h3,_,h4,h5⟩
 ·exact E7w a cap w h
 ·exact F0j b off cap l w h1 h2 h3 h4 h
theorem D5x {l : List Nod} {k mb : Nat} {m : List (Int × Value)} {w : World} (f : Nat) (hm : A0i (fun n : Int => Value.int .i64 n) w mb m) (hf : D0m l k m) :
 (Instr.lookup 210 (.map (some mb)) (.int .i64 (f:Int)) false).run Tryz.prog w=.ok (.int .i64 (A1z l k f:Int)) w:=by
 have h:=hf f;by_cases e:A1z l k f=0
 ·rw [if_pos e] at h;have:=hm.look_none A7q (t:=210) (k:=3) (e:=3) Tryz.underlying210 Tryz.underlying3 (a:=(f:Int)) h (Tryz.zeroValue3 _) false;rw [e];exact this
 ·rw [if_neg e] at h;exact hm.look_some A7q (t:=210) (k:=3) (e:=3) Tryz.underlying210 Tryz.underlying3 (a:=(f:Int)) h false
theorem F7j (v : Value) (l : List Nod) (w : World) (hM : A1n w) (h : A4a maxLen 12 (B6b maxLen) w [v] l) :
 Calls Tryz.prog 137 #[v] w (C4z 3 w (A4x l)):=by
 obtain ⟨i0,hi,hz0,hz1,hz2⟩:=info_parts C4p;have HI:=Hi (And.intro hi (And.intro hz0 (And.intro hz1 hz2)));have HCALL:=Hi (C9x v l w hM h);clear h hM hi hz0 hz1 hz2;have hmm := @run_makeMap Tryz.prog;by_cases hE:A0a l=0
 ·rw [A9p hE] at HCALL;have HF:=Hi (B0b hE);have hfew:=(A2b hE).1;clear hE;go_enter Tryz.func137,Tryz.ntmps137;go_wp2_with fail
  refine HCALL.out.mono ?_;rintro e wa ⟨v1,rfl,ho,hb⟩;have HBA0:=Hi hb;have hfl:=A0s l l.length;obtain ⟨p,cap,rfl,hp⟩:=B8f ho;rw [hfl] at ho hp ⊢;have HP:=Hi hp;have HO:=Hi (show A3s 3 wa w.heap.size (.slice p (A4t l l.length).length cap) (A4t l l.length) by rw [hfl];exact ho);clear hb ho hp hfl;have HB1:=Hi ((Below.refl wa.heap.size wa).alloc lr (.map #[] 0));have HM1:=Hi (A0i.made (fun n:Int=>Value.int .i64 n) wa);have HSZ:=Hi (show wa.heap.size<(wa.alloc (.map #[] 0)).heap.size by simp);go_wp2;clear hmm;generalize hmb:wa.heap.size=mb at *;have HMB:=Hi hmb;clear hmb;go_loopw [8,23] (fun _ i wr=>∃ k:Nat,k<=l.length/\i=.int .i64 k/\Hid (Below mb wa wr)/\Hid (∃ m,A0i (fun n:Int=>Value.int .i64 n) wr mb m/\D0m l k m)) (fun _ i _=>l.length-(intOf i).toNat)
  case atStart=>exact ⟨0,by omega,rfl,HB1,Hi ⟨[],HM1.out,D0m.start l⟩⟩
  case round =>
   obtain ⟨k,hk,rfl,HB,HMM⟩:=hrel;by_cases hlt:k<l.length
   ·obtain ⟨g,rfl⟩:=HP.out (by omega);have hbx:=(Below.refl wr.heap.size wr).alloc lr (.cells #[.int .i64 (A2e l k:Int)] 3);have hc:=(HO.out.below (HMB.out▸HB.out)).cell (j:=k) (by rw [A0s];exact hlt);rw [B9v hlt] at hc;obtain ⟨m,hm1,hm2⟩:=HMM.out;have hnk:=E3k l k (A2e l k);have hp2:=hm2.put;have hlook:=D5x (A2e l k) hm1 hm2;generalize A1z l k (A2e l k)=n at *;have HP2:=Hi hp2;generalize A2e l k=f at *;obtain ⟨wp,hput,hmp,hgr⟩:=A0i.put hm1 A7q (t:=210) (k:=3) (e:=3) Tryz.underlying210 Tryz.underlying3 (f:Int) (.int .i64 ((n:Int)+1));have HMP:=Hi hmp;have HGR:=Hi hgr;clear hm1 hm2 hp2 hmp hgr;go_wp2;go_roundw
    case rel=>exact ⟨k+1,by omega,by go_num,Hi (HB.out.grown HGR.out (HMB.out▸HB.out.size) (fun x hx=>by cases hx;exact Nat.le_refl _)),Hi ⟨_,HMP.out,HP2.out⟩⟩
    case measure=>simp [intOf];omega
   ·obtain rfl:k=l.length:=by omega
    obtain ⟨w6,rfl⟩:∃ x,x=wr:=⟨wr,rfl⟩;have HGE:=Hi (show w.heap.size<=w6.heap.size by have:=HBA0.out.size;have:=HB.out.size;omega);have hgew:=HGE.out;go_wp2_with (at_make;refine wpList_make_own _ rfl _ _ 34 rfl w6.heap.size 3 i0 (.int .i64 0) 1 Tryz.underlying34 HI.out.1 HI.out.2.1 HI.out.2.2.1 .i64 .i64 _ l.length rfl rfl (by first|rfl|omega) (by rw [HI.out.2.2.2];omega) (by unfold maxLen;omega) lr ?_;intro w5 hown hgr)
    have HOW5:=Hi (show A3s 3 w5 w6.heap.size (.slice (some ⟨w6.heap.size,0,none⟩) 0 l.length) (B0i l 0) from hown);have HB5:=Hi ((Below.refl w6.heap.size w6).grown hgr lr (fun x hx=>by cases hx));have HM5:=Hi (show ∃ m,A0i (fun n:Int=>Value.int .i64 n) w6 mb m/\mb<w6.heap.size/\D0m l l.length m by
     obtain ⟨m,a,c⟩:=HMM.out;exact ⟨m,a,a.lt,c⟩)
    have HOL:=Hi (HO.out.below (HMB.out▸HB.out));clear hown hgr;go_loopw [9,11,37] (fun v _ i wr2=>∃ k:Nat,k<=l.length/\i=.int .i64 k/\Hid (A3s 3 wr2 w6.heap.size v (B0i l k))/\Hid (Below w6.heap.size w6 wr2)) (fun _ _ i _=>l.length-(intOf i).toNat)
    case atStart=>exact ⟨0,by omega,rfl,HOW5,HB5⟩
    case round =>
     obtain ⟨k,hk,rfl,HOW,HB2⟩:=hrel;have hnl:=B3k l k;by_cases hlt:k<l.length
     ·obtain ⟨g,rfl⟩:=HP.out (by omega);have hc:=(HOL.out.below HB2.out).cell (j:=k) (by rw [A0s];exact hlt);rw [B9v hlt] at hc;obtain ⟨m,hm1,hm2,hm3⟩:=HM5.out;have hlook:=D5x (A2e l k) (hm1.below HB2.out hm2) hm3;have HS:=Hi (C2u l k);clear hm1 hm2 hm3;generalize A1z l l.length (A2e l k)=n at *;generalize A2e l k=f at *;have HA:=Hi ((Below.refl wr.heap.size wr).alloc lr (.cells #[.int .i64 (n:Int)] 3));have HOA:=Hi (A3s.below HOW.out HA.out);have HBA:=Hi (HB2.out.trans (HA.out.mono HB2.out.size));have HSA:=Hi (HBA.out.size);go_wp2_with (at_builtin;refine A9b _ rfl (.tmp 41) (.tmp 45) 34 34 rfl _ _ rfl rfl (n:=(B0i l k).length) (fun ty=>A8g _ _ _ _ w6.heap.size 3 i0 (.int .i64 0) 1 8 Tryz.underlying34 HI.out.1 HI.out.2.1 HI.out.2.2.1 HI.out.2.2.2 rfl (by decide) _ _ _ _ _ _ HOA.out (B3z wr _ _ _ Tryz.underlying34 _ rfl) (by unfold maxLen;omega) (by omega) HSA.out) ?_;intro v1 w4 ho hg _)
      have HO4:=Hi (A3s.app (m:=[(n:Int)]) ho);have HB4:=Hi (A7b HBA.out hg HOA.out HSA.out);clear ho hg;go_wp2;go_roundw
      case rel=>exact ⟨k+1,by omega,by go_num,Hi (by rw [HS.out];exact HO4.out),HB4⟩
      case measure=>simp [intOf];omega
     ·obtain rfl:k=l.length:=by omega
      go_wp2;go_ret2;rw [HF.out];exact ⟨_,rfl,HOW.out.mono HGE.out,HBA0.out.trans ((HB.out.mono (HMB.out▸HBA0.out.size)).trans (HB2.out.mono HGE.out))⟩
 ·rw [A9t hE] at HCALL;have HF:=Hi (C8d hE);have HE:=Hi hE;clear hE hmm;go_enter Tryz.func137,Tryz.ntmps137;go_wp2_with fail
  refine HCALL.out.mono ?_;rintro e wc ⟨v1,rfl,ho,hb⟩;have HBC:=Hi hb;clear hb ho;have hne:=HE.out;generalize A0a l=q at *;go_wp2;go_ret2;rw [HF.out];exact ⟨_,rfl,World.ownsRow_nil _ _ _ 1,HBC.out⟩
end Go.Proofs.YtaffgndickdbiaaGreatDoor
