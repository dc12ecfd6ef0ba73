/- A part of the proof. -/
import Derived.Test.YtaffgndickdbiaaGreatDoorV46
set_option linter.unusedVariables false
set_option linter.unusedSimpArgs false
set_option maxRecDepth 100000
set_option maxHeartbeats 4000000
namespace Go.Creel
open Go.RowKit
theorem D6h {x : Nod} (h : A6c x = 0) : x.data.length ≤ 2000 := by
 unfold A6c A0k at h;split at h
 ·rename_i h1;exact absurd h h1
 ·split at h
  ·rename_i h1;exact absurd h h1
  ·split at h
   ·split at h
    ·cases h
    ·split at h
     ·cases h
     ·omega
   ·split at h
    ·split at h
     ·cases h
     ·rename_i h1;omega
    ·cases h
theorem B8w {l : List Nod} (h : A0a l = 0) : ∀ i,i < l.length → (nk l i).data.length ≤ 140737488355328 := fun i hi => Nat.le_trans (D6h ((A2b h).2 i hi)) (by omega)
theorem D6s {l : List Nod} {n k : Nat} (h : k < n) : D4q (B0i l n) k = (A1z l l.length (A2e l k) : Int) := by
 rw [C6s (by rw [B3k];exact h)];simp [B0i]
theorem C8r {t : TypeId} {w : World} {B : Nat} {v : Value} {l : List Nod} (h : A2a t w B v l) : ∃ p cap,v = .slice p l.length cap ∧ (0 < l.length → ∃ g,p = some ⟨g,0,none⟩ ∧ B ≤ g) := by
 rcases h.form with ⟨rfl,rfl⟩|⟨g,cap,rfl,hgB,hgw,hcap,hcapm⟩
 ·exact ⟨none,0,rfl,fun h=>absurd h (by simp)⟩
 ·exact ⟨_,_,rfl,fun _=>⟨g,rfl,hgB⟩⟩
theorem D8o (m : List Nod) (k : Nat) (s s' : Int) : (m.set k { nk m k with same := s }).set k { nk (m.set k { nk m k with same := s }) k with same := s' } = m.set k { nk m k with same := s' } := by
 rw [List.set_set];by_cases h:k<m.length
 ·rw [D5s h,if_pos rfl]
 ·rw [List.set_eq_of_length_le (by omega),List.set_eq_of_length_le (by omega)]
theorem F8c {w : World} {a : Option Addr} {n cap i : Nat} {l : List Nod} (h : A4a maxLen 12 (B6b maxLen) w [.slice a n cap] l) (hi : i ≤ l.length) : A4a maxLen 12 (B6b maxLen) w [.slice a i cap] (l.take i) := by
 obtain ⟨a',cap',hv,h1,h2,h3,h4,h5⟩:=h;simp only [List.cons.injEq,Value.slice.injEq,and_true] at hv;obtain ⟨rfl,rfl,rfl⟩:=hv;have hl:(l.take i).length=i:=by rw [List.length_take];omega
 refine ⟨a,cap,by rw [hl],by omega,h2,by omega,h4,fun hp=>?_⟩;obtain ⟨b,off,e,hc⟩:=h5 (by omega);refine ⟨b,off,e,fun k hk=>?_⟩;obtain ⟨c,hcl,hcc,hE⟩:=hc k (by omega);exact ⟨c,hcl,hcc,by rw [List.getElem_take];exact hE⟩
theorem D0s {w : World} {a : Option Addr} {n cap i : Nat} {l : List Nod} (h : A4a maxLen 12 (B6b maxLen) w [.slice a n cap] l) (hi : i ≤ l.length) : A4a maxLen 12 (B6b maxLen) w [sliced a i n cap 12] (l.drop i) := by
 obtain ⟨a',cap',hv,h1,h2,h3,h4,h5⟩:=h;simp only [List.cons.injEq,Value.slice.injEq,and_true] at hv;obtain ⟨rfl,rfl,rfl⟩:=hv;have hl:(l.drop i).length=l.length-i:=List.length_drop;unfold sliced;refine ⟨if cap=i then a else a.map (·.add (i*12)),cap-i,by rw [hl],by omega,by omega,by omega,fun h=>?_,fun hp=>?_⟩
 ·split at h
  ·have:=h4 h;omega
  ·cases ha:a with
   | none=>have:=h4 ha;omega
   | some x=>rw [ha] at h;cases h
 ·obtain ⟨b,off,e,hc⟩:=h5 (by omega);refine ⟨b,off+i*12,?_,fun k hk=>?_⟩
  ·rw [if_neg (by omega),e];simp only [Option.map_some,Addr.add];by_cases h0:i*12=0<;>simp [h0]
  ·obtain ⟨c,hcl,hcc,hE⟩:=hc (i+k) (by omega);refine ⟨c,hcl,fun j hj=>?_,by rw [List.getElem_drop];exact hE⟩;rw [<-hcc j hj];congr 2;omega
theorem D1g {P : Program} {w : World} {v : Value} {l : List Nod} {tx e' : TypeId} (hk : P.underlying tx = some (.slice e')) (h : A4a maxLen 12 (B6b maxLen) w [v] l) : Src P 12 tx v l.length (l.flatMap Nod.cells) w := by
 have hone:∀ u∈l.flatMap Nod.cells,u.oneCell'=true:=by
  intro u hu;obtain ⟨x,_,hx⟩:=List.mem_flatMap.1 hu;simp [Nod.cells] at hx;rcases hx with rfl|rfl|rfl|rfl|rfl|rfl|rfl|rfl|rfl|rfl|rfl|rfl<;>rfl
 obtain ⟨a,cap,hv,h1,h2,h3,h4,h5⟩:=h;simp only [List.cons.injEq,and_true] at hv;subst hv;cases a with
 | none =>
   have h0:l.length=0:=by have:=h4 rfl;omega
   obtain rfl:=List.eq_nil_of_length_eq_zero h0;exact Src.ofNil w hk cap
 | some a =>
   refine Src.ofSlice w hk a l.length cap _ (C1e l) (fun j u hu=>?_) hone;have hj:j<l.length*12:=by
    rcases Nat.lt_or_ge j (l.length*12) with h|h
    ·exact h
    ·rw [List.getElem?_eq_none (by rw [C1e];exact h)] at hu;cases hu
   obtain ⟨b,off,e,hc⟩:=h5 (by omega);cases e
   have hjd:j=j / 12*12+j % 12:=by omega
   have hj12:j % 12<12:=Nat.mod_lt _ (by omega);have hji:j / 12<l.length:=by omega
   obtain ⟨c,hcl,hcc,hE⟩:=hc (j / 12) hji;rw [hjd,D7i l (j / 12) (j % 12) hji hj12,A5m hji,<-hE.1,<-hcc _ hj12] at hu;rw [<-hu];have e2:∀ q,(⟨b,off,none⟩:Addr).add q=⟨b,off+q,none⟩:=fun q=>by unfold Addr.add;by_cases h0:q=0<;>simp [h0]
   rw [e2];congr 2;omega
theorem F5h (a : Option Addr) : a.map (·.add 0) = a := by cases a <;> simp [Addr.add]
theorem F7o {w : World} {v : Value} {l : List Nod} (h : A4a maxLen 12 (B6b maxLen) w [v] l) : ∃ a cap,v = .slice a l.length cap ∧ l.length ≤ cap ∧ cap ≤ maxLen := by
 obtain ⟨a,cap,hv,h1,h2,_⟩:=h;exact ⟨a,cap,by simpa using hv,h1,h2⟩
theorem F4g {w : World} {x : Nod} {t : TypeId} (hx : x.Ok maxLen w) : A4a maxLen 12 (B6b maxLen) (w.alloc (.cells #[.string x.path,.int .i64 x.kind,.int .i64 x.same,.string x.target,.int .i64 x.mt.mode,.int .i64 x.mt.uid,.int .i64 x.mt.gid,.string x.mt.user,.string x.mt.group,.int .i64 x.mt.second,.int .i64 x.mt.nano,.slice x.da x.data.length x.dcap] t)) [.slice (some ⟨w.heap.size,0,none⟩) 1 1] [x] := by
 refine ⟨some ⟨w.heap.size,0,none⟩,1,rfl,Nat.le_refl _,by unfold maxLen;omega,by unfold maxLen;simp,(fun h=>by cases h),fun _=>⟨w.heap.size,0,rfl,fun i hi=>?_⟩⟩;obtain rfl:i=0:=by simp at hi;omega
 refine ⟨x.cells,rfl,fun j hj=>?_,rfl,hx.below ((Below.refl _ _).alloc lr _)⟩;have hz:0+0*12+j=j:=by omega
 rw [hz,World.cell?_alloc_new];simp [Nod.cells]
theorem D5i {t : TypeId} {w w0 : World} {B : Nat} {v : Value} {c m : List Nod} (hown : A2a t w B v c) (hm : ∀ x ∈ m,x.Ok maxLen w) (hf : ∀ x ∈ m,∀ a,x.da = some a → w0.heap.size ≤ a.block) (hv : ∀ b,v.ownBlock = some b → b < w0.heap.size) : ∀ x,x ∈ m → B3r w v x := by
 intro x hx;refine ⟨hm x hx,fun a hp ha he=>?_⟩;have h1:=hf x hx a ha;have h2:=hv _ he;omega
theorem A2a.blk {t : TypeId} {w : World} {B : Nat} {v : Value} {l : List Nod} (h : A2a t w B v l) : ∀ b,v.ownBlock = some b → b < w.heap.size := by
 intro b hb;rcases h.form with ⟨rfl,_⟩|⟨g,cap,rfl,_,hg,_⟩
 ·simp [Value.ownBlock] at hb
 ·simp [Value.ownBlock] at hb;omega
theorem A2a.oks {t : TypeId} {w : World} {B : Nat} {v : Value} {l : List Nod} (h : A2a t w B v l) : ∀ x ∈ l,x.Ok maxLen w := fun x hx => (h.2 x hx).1
theorem B5o {l : List Nod} (h : ∀ x ∈ l,x.data.length ≤ 140737488355328) : ∀ i,i < l.length → (nk l i).data.length ≤ 140737488355328 := fun i hi => by rw [A5m hi]; exact h _ (List.getElem_mem hi)
theorem E1n {l : List Nod} (h : ∀ i,i < l.length → (nk l i).data.length ≤ 140737488355328) : ∀ x ∈ l,x.data.length ≤ 140737488355328 := fun x hx => by
 obtain ⟨i,hi,rfl⟩:=List.mem_iff_getElem.1 hx;rw [<-A5m hi];exact h i hi
theorem F2q {P : Program} {f : FuncId} {fn : Func} (hf : P.funcs[f]? = some fn) (hname : (fn.name == "runtime.NumGoroutine") = false) (hb : fn.body.isSome = true) (args : Array Value) (w : World) :
 (callFunc f args).run P w=.ok (.enter f args) w:=by
 have h1:fn.name ≠ "runtime.NumGoroutine" := by simpa using hname
 obtain ⟨c,hc⟩:=Option.isSome_iff_exists.1 hb;simp [callFunc,hf,h1,hc]
theorem half_lt {i j : Nat} (h : i < j) : i ≤ (i + j) / 2 ∧ (i + j) / 2 < j := by omega
def RetTF (t : TypeId) (w : World) (l : List Nod) (e : Ending) (w' : World) : Prop := ∃ v l',e = .returned v ∧ A2a t w' w.heap.size v l' ∧ l'.map Nod.bare = l.map Nod.bare ∧ Below w.heap.size w w' ∧ ∀ x ∈ l',∀ a,x.da = some a → w.heap.size ≤ a.block
end Go.Creel
namespace Go.Proofs.YtaffgndickdbiaaGreatDoor
open Go.Creel Go.RowKit
theorem D3z (v : Value) (l : List Nod) (w : World) (hM : A1n w) (h : A4a maxLen 12 (B6b maxLen) w [v] l) :
 Calls Tryz.prog 75 #[v] w (B4j 99 w (A0q l)):=by
 have H:=Hi h;have HM:=Hi hM;by_cases hE:A0a l=0
 ·have HF:=Hi (A8u hE);have HL1:=Hi (A9p hE);have HL2:=Hi (B0b hE);have hfew:=(A2b hE).1;have HD:=Hi (B8w hE);clear hE h hM;go_enter Tryz.func75,Tryz.ntmps75;go_wp2_with fail
  refine (C9x v l _ HM.out H.out).mono ?_;rintro e w1 ⟨v1,rfl,ho,hb⟩;rw [HL1.out] at ho ⊢;have HB1:=Hi hb;have HO1:=Hi ho;have H1:=Hi (A8c H.out hb);have HM1:=Hi (HM.out.below hb);clear hb ho;go_wp2_with fail
  refine (F7j v l _ HM1.out H1.out).mono ?_;rintro e w2 ⟨v2,rfl,ho,hb⟩;rw [HL2.out] at ho ⊢;have HB2:=Hi (HB1.out.trans (hb.mono HB1.out.size));have HO2:=Hi (HO1.out.below hb);have HP2:=Hi ho;have H2:=Hi (A8c H1.out hb);clear hb ho;go_wp2_with fail
  refine (C3y v l _ H2.out (by omega) HD.out).mono ?_;rintro e w3 ⟨v3,c,rfl,ho,hcl,hb⟩;have HB3:=Hi hb;have hlen:=A5i hcl;obtain ⟨p,cap,rfl,hp⟩:=C8r ho;rw [hlen] at ho hp ⊢;have HP:=Hi hp;have HO3:=Hi ho;have HT:=Hi (B7u.start hcl);obtain ⟨p1,cap1,rfl,hp1⟩:=B8f HO2.out;obtain ⟨p2,cap2,rfl,hp2⟩:=B8f HP2.out;have hfl:=A0s l l.length;have hnl:=B3k l l.length;rw [hfl] at hp1;rw [hnl] at hp2;have HQ1:=Hi hp1;have HQ2:=Hi hp2;clear hb ho hp hcl hlen hp1 hp2;go_wp2;go_loopw [9,27] (fun _ i wr=>∃ (k:Nat) (m:List Nod),k<=l.length/\i=.int .i64 k/\Hid (A2a 99 wr w2.heap.size (.slice p l.length cap) m)/\Hid (B7u l m k)/\Hid (Below w2.heap.size w2 wr)) (fun _ i _=>l.length-(intOf i).toNat)
  case atStart=>exact ⟨0,c,by omega,rfl,HO3,HT,HB3⟩
  case round =>
   obtain ⟨k,m,hk,rfl,HOM,HTM,HBM⟩:=hrel;by_cases hlt:k<l.length
   ·obtain ⟨g,rfl,hgB⟩:=HP.out (by omega);obtain ⟨g1,rfl⟩:=HQ1.out (by omega);obtain ⟨g2,rfl⟩:=HQ2.out (by omega);have HZ:=Hi (HOM.out.putSame HTM.out.1 hlt 0 (by unfold i64;omega));have HBZ:=Hi (HBM.out.setCell (p:=⟨g,k*12+2,none⟩) hgB (.int .i64 0));have hcz:=HZ.out.2.1;have hfz:=HZ.out.2.2.1;have hmc:=(HP2.out.below HBZ.out).cell (j:=k) (by omega);rw [D6s hlt] at hmc;have hfle:=C6v l k;have HAN:=Hi (show B6y l k=if 1<A1z l l.length (A2e l k) then (A2e l k:Int)+1 else 0 from rfl);have HST:=Hi (HTM.out.step hlt);have hlc:=(HO2.out.below HBZ.out).cell (j:=k) (by omega);rw [B9v hlt] at hlc;generalize A1z l l.length (A2e l k)=n at *;generalize A2e l k=f at *;by_cases hn:1<n
    ·have hd:decide ((1:Int)<(n:Int))=true:=decide_eq_true (by omega);have HAN2:=Hi (HAN.out.trans (if_pos hn));have HY:=Hi (HZ.out.1.putSame (by rw [List.length_set];exact HTM.out.1) hlt ((f:Int)+1) (by unfold i64;omega));have HBY:=Hi (HBZ.out.setCell (p:=⟨g,k*12+2,none⟩) hgB (.int .i64 ((f:Int)+1)));have hcy:=HY.out.2.1;have hfy:=HY.out.2.2.1;have HYO:=Hi HY.out.1;rw [D8o,<-HAN2.out] at HYO;clear hn;go_wp2;go_roundw
     case rel=>exact ⟨k+1,_,by omega,by go_num,by rw [HAN2.out] at HYO;rw [<-HAN2.out] at HYO ⊢;exact HYO,HST,HBY⟩
     case measure=>simp [intOf];omega
    ·have hd:decide ((1:Int)<(n:Int))=false:=decide_eq_false (by omega);have HAN2:=Hi (HAN.out.trans (if_neg hn));have HZO:=Hi HZ.out.1;rw [<-HAN2.out] at HZO;clear hn;go_wp2;go_roundw
     case rel=>exact ⟨k+1,_,by omega,by go_num,by rw [HAN2.out] at HZO;exact HZO,by have e:=HST.out;rw [HAN2.out] at e;exact Hi e,HBZ⟩
     case measure=>simp [intOf];omega
   ·obtain rfl:k=l.length:=by omega
    go_wp2;go_ret2;rw [HF.out];exact ⟨_,m,rfl,HOM.out.mono HB2.out.size,HTM.out.done,HB2.out.trans (HBM.out.mono HB2.out.size)⟩
 ·have HF:=Hi (B1b hE);have HL1:=Hi (A9t hE);have HE:=Hi hE;clear hE h hM;go_enter Tryz.func75,Tryz.ntmps75;go_wp2_with fail
  refine (C9x v l _ HM.out H.out).mono ?_;rintro e w1 ⟨v1,rfl,ho,hb⟩;rw [HL1.out];have HB1:=Hi hb;have hne:=HE.out;clear hb ho;generalize A0a l=q at *;go_wp2;go_ret2;rw [HF.out];exact ⟨_,[],rfl,A2a.nil _ _ _,rfl,HB1.out⟩
theorem D2z (v : Value) (l : List Nod) (w : World) (h : A4a maxLen 12 (B6b maxLen) w [v] l) :
 Calls Tryz.prog 79 #[v] w (B4j 99 w (A0q l)):=by
 have H:=Hi h;by_cases hE:A0a l=0
 ·have HF:=Hi (A8u hE);have HL1:=Hi (A9p hE);have HL2:=Hi (B0b hE);have hfew:=(A2b hE).1;have HD:=Hi (B8w hE);clear hE h;go_enter Tryz.func79,Tryz.ntmps79;go_wp2_with fail
  refine (D6x v l _ H.out).mono ?_;rintro e w1 ⟨v1,rfl,ho,hb⟩;rw [HL1.out] at ho ⊢;have HB1:=Hi hb;have HO1:=Hi ho;have H1:=Hi (A8c H.out hb);clear hb ho;go_wp2_with fail
  refine (E8w v l _ H1.out).mono ?_;rintro e w2 ⟨v2,rfl,ho,hb⟩;rw [HL2.out] at ho ⊢;have HB2:=Hi (HB1.out.trans (hb.mono HB1.out.size));have HO2:=Hi (HO1.out.below hb);have HP2:=Hi ho;have H2:=Hi (A8c H1.out hb);clear hb ho;go_wp2_with fail
  refine (B9m v l _ H2.out (by omega) HD.out).mono ?_;rintro e w3 ⟨v3,c,rfl,ho,hcl,hb⟩;have HB3:=Hi hb;have hlen:=A5i hcl;obtain ⟨p,cap,rfl,hp⟩:=C8r ho;rw [hlen] at ho hp ⊢;have HP:=Hi hp;have HO3:=Hi ho;have HT:=Hi (B7u.start hcl);obtain ⟨p1,cap1,rfl,hp1⟩:=B8f HO2.out;obtain ⟨p2,cap2,rfl,hp2⟩:=B8f HP2.out;have hfl:=A0s l l.length;have hnl:=B3k l l.length;rw [hfl] at hp1;rw [hnl] at hp2;have HQ1:=Hi hp1;have HQ2:=Hi hp2;clear hb ho hp hcl hlen hp1 hp2;go_wp2;go_loopw [9] (fun i wr=>∃ (k:Nat) (m:List Nod),k<=l.length/\i=.int .i64 k/\Hid (A2a 99 wr w2.heap.size (.slice p l.length cap) m)/\Hid (B7u l m k)/\Hid (Below w2.heap.size w2 wr)) (fun i _=>l.length-(intOf i).toNat)
  case atStart=>exact ⟨0,c,by omega,rfl,HO3,HT,HB3⟩
  case round =>
   obtain ⟨k,m,hk,rfl,HOM,HTM,HBM⟩:=hrel;by_cases hlt:k<l.length
   ·obtain ⟨g,rfl,hgB⟩:=HP.out (by omega);obtain ⟨g1,rfl⟩:=HQ1.out (by omega);obtain ⟨g2,rfl⟩:=HQ2.out (by omega);have HZ:=Hi (HOM.out.putSame HTM.out.1 hlt 0 (by unfold i64;omega));have HBZ:=Hi (HBM.out.setCell (p:=⟨g,k*12+2,none⟩) hgB (.int .i64 0));have hcz:=HZ.out.2.1;have hfz:=HZ.out.2.2.1;have hmc:=(HP2.out.below HBZ.out).cell (j:=k) (by omega);rw [D6s hlt] at hmc;have hfle:=C6v l k;have HAN:=Hi (show B6y l k=if 1<A1z l l.length (A2e l k) then (A2e l k:Int)+1 else 0 from rfl);have HST:=Hi (HTM.out.step hlt);have hlc:=(HO2.out.below HBZ.out).cell (j:=k) (by omega);rw [B9v hlt] at hlc;generalize A1z l l.length (A2e l k)=n at *;generalize A2e l k=f at *;by_cases hn:1<n
    ·have hd:decide ((1:Int)<(n:Int))=true:=decide_eq_true (by omega);have HAN2:=Hi (HAN.out.trans (if_pos hn));have HY:=Hi (HZ.out.1.putSame (by rw [List.length_set];exact HTM.out.1) hlt ((f:Int)+1) (by unfold i64;omega));have HBY:=Hi (HBZ.out.setCell (p:=⟨g,k*12+2,none⟩) hgB (.int .i64 ((f:Int)+1)));have hcy:=HY.out.2.1;have hfy:=HY.out.2.2.1;have HYO:=Hi HY.out.1;rw [D8o,<-HAN2.out] at HYO;clear hn;go_wp2;go_roundw
     case rel=>exact ⟨k+1,_,by omega,by go_num,by rw [HAN2.out] at HYO;rw [<-HAN2.out] at HYO ⊢;exact HYO,HST,HBY⟩
     case measure=>simp [intOf];omega
    ·have hd:decide ((1:Int)<(n:Int))=false:=decide_eq_false (by omega);have HAN2:=Hi (HAN.out.trans (if_neg hn));have HZO:=Hi HZ.out.1;rw [<-HAN2.out] at HZO;clear hn;go_wp2;go_roundw
     case rel=>exact ⟨k+1,_,by omega,by go_num,by rw [HAN2.out] at HZO;exact HZO,by have e:=HST.out;rw [HAN2.out] at e;exact Hi e,HBZ⟩
     case measure=>simp [intOf];omega
   ·obtain rfl:k=l.length:=by omega
    go_wp2;go_ret2;rw [HF.out];exact ⟨_,m,rfl,HOM.out.mono HB2.out.size,HTM.out.done,HB2.out.trans (HBM.out.mono HB2.out.size)⟩
 ·have HF:=Hi (B1b hE);have HL1:=Hi (A9t hE);have HE:=Hi hE;clear hE h;go_enter Tryz.func79,Tryz.ntmps79;go_wp2_with fail
  refine (D6x v l _ H.out).mono ?_;rintro e w1 ⟨v1,rfl,ho,hb⟩;rw [HL1.out];have HB1:=Hi hb;have hne:=HE.out;clear hb ho;generalize A0a l=q at *;go_wp2;go_ret2;rw [HF.out];exact ⟨_,[],rfl,A2a.nil _ _ _,rfl,HB1.out⟩
theorem F1a (w : World) (a : Option Addr) (n cap i : Nat) (h : i ≤ n) (hc : n ≤ cap) : (Instr.slice 51 (.slice a n cap) none (some (.int .i64 i)) none).run Tryz.prog w = .ok (.slice a i cap) w := by
 rw [run_slice_h w 51 a n cap (by kernel_rfl) .i64 i (by omega) (by omega)];have hs:(sizeOf (Tryz.prog.elem 51)).run Tryz.prog w=.ok 12 w:=by kernel_rfl
 rw [hs];simp only [Result.andThen,sliced,Int.toNat_natCast,Nat.zero_mul,F5h,ite_self,Nat.sub_zero]
theorem D0p (w : World) (a : Option Addr) (n cap i : Nat) (h : i ≤ n) (hc : n ≤ cap) : (Instr.slice 51 (.slice a n cap) (some (.int .i64 i)) none none).run Tryz.prog w = .ok (sliced a i n cap 12) w := by
 rw [run_slice_l w 51 a n cap (by kernel_rfl) .i64 i (by omega) (by omega)];have hs:(sizeOf (Tryz.prog.elem 51)).run Tryz.prog w=.ok 12 w:=by kernel_rfl
 rw [hs];simp only [Result.andThen,Int.toNat_natCast]
theorem E3w (x : Nod) (s : ByteArray) (w : World) (hM : A1n w) (hx : x.path.size ≤ 1048576) (hs : s.size ≤ 1048576) :
 Calls Tryz.prog 141 #[x.val,.string s] w fun e w'=>e=.returned (.int .i64 (A3o s x))/\Below w.heap.size w w':=by
 have HB:=Hi ((Below.refl w.heap.size w).alloc lr (A4h x));have HC:=Hi (fun w hM=>C5b x.path s w hM hx hs);have HM:=Hi (hM.below HB.out);have HO:=Hi (show B7b (A8a x.path) (A8a s)=A3o s x from rfl);rw [HO.out] at HC;clear hM hx hs HO;go_enter Tryz.func141,Tryz.ntmps141;go_wp2_with fail
 refine (HC.out _ HM.out).mono ?_;rintro e w2 ⟨rfl,hb⟩;have HB2:=Hi (HB.out.trans (hb.mono HB.out.size));clear hb;go_wp2;go_ret;exact ⟨rfl,HB2.out⟩
theorem D0z (b off cap n : Nat) (l : List Nod) (s : ByteArray) (w : World) (hM : A1n w) (hs : s.size ≤ 1048576) (hn : l.length = n) (hle : n ≤ cap) (hm : cap ≤ maxLen) (hc : A5p w b off l) (ho : l.Pairwise B6m) (hps : ∀ k,k < n → (nk l k).path.size ≤ 1048576) (h40 : n ≤ 40) :
 Calls Tryz.prog 140 #[.slice (some ⟨b,off,none⟩) n cap,.string s,.func (.func 141) #[] #[]] w fun e w'=>e=.returned (.tuple #[.int .i64 (B4z l s),.bool (E1y l s)])/\Below w.heap.size w w':=by
 unfold maxLen at hm;have HC:=Hi hc;have HM:=Hi hM;have HCMP:=Hi (fun k (hk:k<n) w hM=>E3w (nk l k) s w hM (hps k hk) hs);have HLATER:=Hi (fun h k (hk:k<n) (hh:h<=k) (hx:¬ A3o s (nk l h) = -1)=>show ¬ A3o s (nk l k) = -1 from by
  by_cases e:h=k
  ·rw [<-e];exact hx
  ·have:=C4t (x:=nk l h) (y:=nk l k) (by rw [A5m (by omega),A5m (by omega)];exact List.pairwise_iff_getElem.1 ho _ _ (by omega) (by omega) (by omega)) hx;rw [this];decide)
 have HEQ:=Hi (fun i (hi:i<=n)=>pos_eq (l:=l) (s:=s) (i:=i) (by omega));have hent:=F2q Tryz.func141 (by kernel_rfl) (by kernel_rfl);clear hc hM hps ho;have HN:=Hi hn;clear hn;go_enter Tryz.func140,Tryz.ntmps140;go_wp2;go_loopw [9,10,11] (fun v9 v10 _ wr=>∃ i j:Nat,v9=.int .i64 i/\v10=.int .i64 j/\i<=j/\j<=n/\Hid (∀ k,k<i->A3o s (nk l k) = -1)/\Hid (∀ k,j<=k->k<n->¬ A3o s (nk l k) = -1)/\Hid (Below w.heap.size w wr)) (fun v9 v10 _ _=>(intOf v10).toNat-(intOf v9).toNat)
 case atStart=>exact ⟨0,n,rfl,rfl,by omega,by omega,Hi (fun k hk=>absurd hk (by omega)),Hi (fun k h1 h2=>absurd h2 (by omega)),Hi (Below.refl _ _)⟩
 case round =>
  obtain ⟨i,j,rfl,rfl,hij,hjn,HLO,HHI,HB⟩:=hrel;by_cases hlt:i<j
  ·obtain ⟨hh1,hh2⟩:=half_lt hlt;go_upto_region 5 with fail
   rw [show ((i:Int)+(j:Int)) / 2=(((i+j) / 2:Nat):Int) by omega];generalize (i+j) / 2=h at *;obtain ⟨h0,h1,h2,h3,h4,h5,h6,h7,h8,h9,h10,h11⟩:=(HC.out.below HB.out) h (by have:=HN.out;omega);have HCALL:=Hi (HCMP.out h (by omega) wr (HM.out.below HB.out));have HUP:=Hi (HLATER.out h);have HLOW:=Hi (show A3o s (nk l h) = -1->∀ k,k<h+1->A3o s (nk l k) = -1 from fun e k hk=>by
    by_cases hkh:k=h
    ·rw [hkh];exact e
    ·rcases Nat.lt_or_ge k i with h2|h2
     ·exact HLO.out k h2
     ·refine Classical.byContradiction fun hx=>?_
      exact HLATER.out k h (by omega) (by omega) hx e)
   have HRG:=Hi (B1o s (nk l h));generalize nk l h=x at *;generalize A3o s x=c at *;go_wp2_with fail
   refine HCALL.out.mono ?_;rintro e w2 ⟨rfl,hb⟩;have HB2:=Hi (HB.out.trans (hb.mono HB.out.size));clear hb;by_cases hc:c = -1
   ·have HL:=Hi (HLOW.out hc);have hd:decide (c<0)=true:=decide_eq_true (by omega);subst hc;clear hd;go_wp2;go_roundw
    case rel=>exact ⟨h+1,j,by go_num,rfl,by omega,hjn,HL,HHI,HB2⟩
    case measure=>simp [intOf];omega
   ·have HU:=Hi (fun k (h1:h<=k) (h2:k<n)=>HUP.out k h2 h1 hc);have hd:¬ c<0:=by have:=HRG.out;omega
    clear hc;go_wp2;go_roundw
    case rel=>exact ⟨i,h,rfl,rfl,by omega,by omega,HLO,HU,HB2⟩
    case measure=>simp [intOf];omega
  ·obtain rfl:i=j:=by omega
   have HP:=Hi (HEQ.out i hjn HLO.out (fun hi=>HHI.out i lr (by have:=HN.out;omega)));by_cases hin:i<n
   ·obtain ⟨h0,h1,h2,h3,h4,h5,h6,h7,h8,h9,h10,h11⟩:=(HC.out.below HB.out) i (by have:=HN.out;omega);have HCALL:=Hi (HCMP.out i hin wr (HM.out.below HB.out));have HA:=Hi (show E1y l s=decide (A3o s (nk l i)=0) by unfold E1y;rw [HP.out,HN.out];simp [hin]);generalize nk l i=x at *;generalize A3o s x=c at *;go_wp2_with fail
    refine HCALL.out.mono ?_;rintro e w2 ⟨rfl,hb⟩;have HB2:=Hi (HB.out.trans (hb.mono HB.out.size));clear hb;go_wp2;go_ret2;rw [HA.out,HP.out];exact ⟨rfl,HB2.out⟩
   ·have HA:=Hi (show E1y l s=false by unfold E1y;rw [HP.out,HN.out];simp [hin]);go_wp2;go_ret2;rw [HA.out,HP.out];exact ⟨rfl,HB.out⟩
theorem F9k (b off cap : Nat) (l : List Nod) (w : World) (hpos : 0 < l.length) (hfew : l.length ≤ 8000000000) (hle : l.length ≤ cap) (hm : cap ≤ maxLen) (hc : A5p w b off l) (hok : ∀ i,i < l.length → (nk l i).Ok maxLen w) (hdat : ∀ i,i < l.length → (nk l i).data.length ≤ 140737488355328) :
 Calls Tryz.prog 70 #[.slice (some ⟨b,off,none⟩) l.length cap] w (RetTF 99 w l):=by
 obtain ⟨i0,hi,hz0,hz1,hz2⟩:=info_parts A9r;have HI:=Hi (And.intro hi (And.intro hz0 (And.intro hz1 hz2)));clear hi hz0 hz1 hz2;obtain ⟨i1,hi,hz0,hz1,hz2⟩:=info_parts C9i;have HJ:=Hi (And.intro hi (And.intro hz0 (And.intro hz1 hz2)));have HC:=Hi hc;have HK:=Hi hok;have HD:=Hi hdat;unfold maxLen at hm;clear hc hok hdat hi hz0 hz1 hz2;go_enter Tryz.func70,Tryz.ntmps70;go_wp2_with (at_make;refine wpList_make_own _ rfl _ _ 51 rfl w.heap.size 99 i0 _ 12 Tryz.underlying51 HI.out.1 HI.out.2.1 HI.out.2.2.1 .i64 .i64 _ l.length rfl rfl (by first|rfl|omega) (by rw [HI.out.2.2.2];omega) (by unfold maxLen;omega) lr ?_;intro w5 hown hgr)
 have HOW5:=Hi (show A2a 99 w5 w.heap.size (.slice (some ⟨w.heap.size,0,none⟩) 0 l.length) [] from ⟨hown,fun x hx=>absurd hx (by simp)⟩);have HB5:=Hi ((Below.refl w.heap.size w).grown hgr lr (fun x hx=>by cases hx));clear hown hgr;go_loopw [3,5,11] (fun v _ i wr=>∃ (k:Nat) (c:List Nod),k<=l.length/\i=.int .i64 k/\c.length=k/\Hid (A2a 99 wr w.heap.size v c)/\Hid (c.map Nod.bare=(l.take k).map Nod.bare)/\Hid (Below w.heap.size w wr)/\Hid (∀ x∈c,∀ a,x.da=some a->w.heap.size<=a.block)) (fun _ _ i _=>l.length-(intOf i).toNat)
 case atStart=>exact ⟨0,[],by omega,rfl,rfl,HOW5,Hi rfl,HB5,Hi (fun x hx=>absurd hx (by simp))⟩
 case round =>
  obtain ⟨k,c,hk,rfl,hck,HOW,HBR,HB,HFR⟩:=hrel;by_cases hlt:k<l.length
  ·obtain ⟨h0,h1,h2,h3,h4,h5,h6,h7,h8,h9,h10,h11⟩:=(HC.out.below HB.out) k hlt;have hxl:=HD.out k hlt;have HOB:=Hi HB.out.size;have HKX:=Hi ((HK.out k hlt).below HB.out);have HBY:=Hi (fun (y:Nod) (hy:y.bare=(nk l k).bare)=>C1x HBR.out hlt hy);generalize nk l k=x at *;have hbx:=(Below.refl wr.heap.size wr).alloc lr (A4h x);have HBX:=Hi hbx;have hxd:A4a maxLen 1 A1e (wr.alloc (A4h x)) [.slice x.da x.data.length x.dcap] x.data:=HKX.out.data.below (fun _ _ h=>h) hbx;clear hbx;have happ:∀ ty,D1z Tryz.prog (wr.alloc (A4h x)) 24 24 ty (.slice none 0 0) (.slice x.da x.data.length x.dcap) (wr.alloc (A4h x)).heap.size 5 1 0 x.data.length [] (x.data.map A0n):=fun ty=>A1h (l:=[]) (wr.alloc (A4h x)) 24 24 5 5 i1 Tryz.underlying24 Tryz.underlying24 HJ.out.1 HJ.out.2.1 HJ.out.2.2.1 HJ.out.2.2.2 (OwnBs.nil _ _ _) hxd (by simp;omega) lr ty
   have HAPP:=Hi happ;clear happ;have hob:=HOB.out
   go_wp2_with (first
    | (at_builtin;refine A9b _ rfl (.const (.slice none 0 0)) (.tmp 16) 24 24 rfl _ _ rfl rfl HAPP.out ?_;intro v1 w2 ho hg _;obtain ⟨da,dc,rfl,HP2⟩:=C2o (by unfold maxLen;omega) ho hg;obtain ⟨⟨c0,c1,c2,c3,c4,c5,c6,c7,c8,c9,c10,c11⟩,hfz,_⟩:=HP2.out;simp only [Nat.zero_add] at c1 c2 c3 c4 c5 c6 c7 c8 c9 c10 c11;clear ho hg)
    | (at_builtin;have HO3:=Hi (HOW.out.below (HP2.out.2.2.1.alloc HP2.out.2.2.1.size (A4h (x.at da dc))));have HN3:=Hi (D4v (A4h (x.at da dc)) HOW.out HKX.out HP2.out.2.2.2.1 HP2.out.2.2.2.2);refine A9b _ rfl (.tmp 19) (.tmp 21) 51 51 rfl _ _ rfl rfl (fun ty=>A8g _ 51 51 ty w.heap.size 99 i0 _ 12 144 Tryz.underlying51 HI.out.1 HI.out.2.1 HI.out.2.2.1 HI.out.2.2.2 rfl (by decide) _ _ c.length 1 _ _ HO3.out.1 (B0v (w2.setCell ⟨wr.heap.size,11,none⟩ (.slice da x.data.length dc)) (show w2.heap.size=_ by simp) _ _ _ Tryz.underlying51 (x.at da dc)) (by unfold maxLen;omega) (by omega) (Nat.le_trans HOB.out (HP2.out.2.2.1.alloc HP2.out.2.2.1.size (A4h (x.at da dc))).size)) ?_;intro v2 w4 ho2 hg2 hv2;have HZ:=Hi (And.intro ho2 (And.intro hg2 hv2));clear ho2 hg2 hv2))
   have HO4:=Hi (HO3.out.app (m:=[x.at da dc]) (fun y hy=>by rw [List.mem_singleton.1 hy];exact HN3.out) HZ.out.1 HZ.out.2.1 HZ.out.2.2.2);have HB3:=Hi (HB.out.trans ((HP2.out.2.2.1.alloc HP2.out.2.2.1.size (A4h (x.at da dc))).mono HB.out.size));have HB4:=Hi (A7b HB3.out HZ.out.2.1 HO3.out.1 HB3.out.size);go_wp2;go_roundw
   case rel=>exact ⟨k+1,c++[x.at da dc],by omega,by go_num,by simp [hck],HO4,Hi (HBY.out _ rfl),HB4,Hi (fun y hy a ha=>by
    rcases List.mem_append.1 hy with h|h
    ·exact HFR.out y h a ha
    ·rw [List.mem_singleton.1 h] at ha;exact Nat.le_trans HOB.out (HP2.out.2.2.2.2 a ha))⟩
   case measure=>simp [intOf];omega
  ·obtain rfl:k=l.length:=by omega
   go_wp2;go_ret;rw [List.take_length] at HBR;exact ⟨_,c,rfl,HOW.out,HBR.out,HB.out,HFR.out⟩
theorem E8x (a : Option Addr) (cap : Nat) (w : World) : Calls Tryz.prog 70 #[.slice a 0 cap] w (RetTF 99 w []) := by
 obtain ⟨i0,hi,hz0,hz1,hz2⟩:=info_parts A9r;have HI:=Hi (And.intro hi (And.intro hz0 (And.intro hz1 hz2)));clear hi hz0 hz1 hz2;go_enter Tryz.func70,Tryz.ntmps70;go_wp2_with (at_make;refine wpList_make_own _ rfl _ _ 51 rfl w.heap.size 99 i0 _ 12 Tryz.underlying51 HI.out.1 HI.out.2.1 HI.out.2.2.1 .i64 .i64 _ 0 rfl rfl rfl (by omega) (by unfold maxLen;omega) lr ?_;intro w5 hown hgr)
 have HOW5:=Hi (show A2a 99 w5 w.heap.size (.slice (some ⟨w.heap.size,0,none⟩) 0 0) [] from ⟨hown,fun x hx=>absurd hx (by simp)⟩);have HB5:=Hi ((Below.refl w.heap.size w).grown hgr lr (fun x hx=>by cases hx));clear hown hgr
 go_loop [3,5,11] (fun v _ i=>i=.int .i64 0/\v=.slice (some ⟨w.heap.size,0,none⟩) 0 0) (fun _ _ _=>0)
 case atStart=>exact ⟨rfl,rfl⟩
 case round =>
  obtain ⟨rfl,rfl⟩:=hrel;go_wp2;go_ret;exact ⟨_,[],rfl,HOW5.out,rfl,HB5.out,fun x hx=>absurd hx (by simp)⟩
theorem B4w (v : Value) (l : List Nod) (w : World) (h : A4a maxLen 12 (B6b maxLen) w [v] l) (hfew : l.length ≤ 8000000000) (hdat : ∀ i,i < l.length → (nk l i).data.length ≤ 140737488355328) :
 Calls Tryz.prog 70 #[v] w (RetTF 99 w l):=by
 rcases A1g h with ⟨a,cap,rfl,rfl,_⟩|⟨b,off,cap,rfl,h1,h2,h3,h6,h4,h5⟩
 ·exact E8x a cap w
 ·exact F9k b off cap l w h1 hfew h2 h3 h4 h5 hdat
end Go.Proofs.YtaffgndickdbiaaGreatDoor
