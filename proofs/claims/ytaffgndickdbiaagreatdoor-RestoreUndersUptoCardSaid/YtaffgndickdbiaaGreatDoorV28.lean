/- A part of the proof. -/
import Derived.Test.YtaffgndickdbiaaGreatDoorV27
set_option linter.unusedVariables false
set_option linter.unusedSimpArgs false
set_option linter.unusedSectionVars false
set_option maxRecDepth 100000
set_option maxHeartbeats 2000000
namespace Go.Creel
open Go.RowKit
structure RefE (te : TypeId) (fv : Value) (w : World) (bs bw bn : Nat) (s : ByteArray) (e : Int) : Prop where
 str:w.cell? ⟨bs,0,none⟩=some (.string s)
 fn:w.cell? ⟨bn,0,none⟩=some fv
 worst:w.heap[bw]?=some (.cells #[.int .i64 e] te (0,0))
 sw:bs≠bw
 nw:bn≠bw
variable {te : TypeId} {fv : Value} {w w' : World} {bs bw bn : Nat} {s : ByteArray} {e e' : Int}
theorem RefE.wc (h : RefE te fv w bs bw bn s e) : w.cell? ⟨bw,0,none⟩ = some (.int .i64 e) := cellAt h.worst rfl
theorem RefE.wf (h : RefE te fv w bs bw bn s e) : w.frozen? ⟨bw,0,none⟩ = false := frozen_of_row w bw 0 _ te h.worst
theorem RefE.lt (h : RefE te fv w bs bw bn s e) : bs < w.heap.size ∧ bn < w.heap.size ∧ bw < w.heap.size := ⟨World.block_lt_of_cell? w _ h.str,World.block_lt_of_cell? w _ h.fn,(ltO h.worst)⟩
theorem RefE.put (h : RefE te fv w bs bw bn s e) (e' : Int) : RefE te fv (w.setCell ⟨bw,0,none⟩ (.int .i64 e')) bs bw bn s e' := by
 refine ⟨?_,?_,?_,h.sw,h.nw⟩
 ·rw [World.cell?_setCell_other _ _ _ _ (fun e=>h.sw (congrArg Addr.block e).symm)];exact h.str
 ·rw [World.cell?_setCell_other _ _ _ _ (fun e=>h.nw (congrArg Addr.block e).symm)];exact h.fn
 ·rw [heap_setCell_same w bw 0 _ te _ h.worst];rfl
theorem RefE.below (h : RefE te fv w bs bw bn s e) (hb : Below w.heap.size w w') : RefE te fv w' bs bw bn s e := by
 obtain ⟨l1,l2,l3⟩:=h.lt;exact ⟨(hb.cell (p:=⟨bs,0,none⟩) l1).trans h.str,(hb.cell (p:=⟨bn,0,none⟩) l2).trans h.fn,(hb.block bw l3).trans h.worst,h.sw,h.nw⟩
end Go.Creel
namespace Go.Proofs.YtaffgndickdbiaaGreatDoor
open Go.Creel Go.RowKit
abbrev F9q (x : Ent) : Obj := (.cells #[.string x.path,.int .i64 x.kind,.string x.target,.int .i64 x.mt.mode,.int .i64 x.mt.uid,.int .i64 x.mt.gid,.string x.mt.user,.string x.mt.group,.int .i64 x.mt.second,.int .i64 x.mt.nano,.slice x.da x.data.length x.dcap] 26)
theorem C9u : (Tryz.prog.info? 26).map (fun i => (i.zero,i.size,i.bytes)) = some (some (.agg #[.string ⟨#[]⟩,.int .i64 0,.string ⟨#[]⟩,.int .i64 0,.int .i64 0,.int .i64 0,.string ⟨#[]⟩,.string ⟨#[]⟩,.int .i64 0,.int .i64 0,.slice none 0 0]),11,136) := by kernel_rfl
theorem sofs_eq {a b : List UInt8} (h : a = b) : ((ofL a).toList == (ofL b).toList) = true := by rw [h]; simp
theorem sofs_ne {a b : List UInt8} (h : ¬ a = b) : ((ofL a).toList == (ofL b).toList) = false := by
 have:=ne_f h;simpa using this
theorem D6u {t : TypeId} {w wr w2 W : World} {v : Value} {c : List Ent} {x y : Ent} (hx : F7k wr w2 x y) (hb : Below w2.heap.size w2 W) (hown : A9g t wr w.heap.size v c) : D4m W v x := by
 refine ⟨hx.2.1.below hb,fun a hp ha e=>?_⟩;have h3:=hx.2.2 a ha;have h4:=(World.ownsRow.lt hown.1 _ e).2;omega
theorem F9h (v : Value) (b : List UInt8) (w : World) (h : A4a maxLen 1 A1e w [v] b) (hbl : b.length ≤ 1048576) (hM : A1n w) (hE : A6p w) (hT : A7m w) :
 Calls Tryz.prog 25 #[v] w (F3i 26 w (A6v b)):=by
 obtain ⟨a,cap,hv,hcp⟩:=A0f h;subst hv;obtain ⟨i0,hi,hz0,hz1,hz2⟩:=info_parts C9u;have HI:=Hi (And.intro hi (And.intro hz0 (And.intro hz1 hz2)));have hs2:∀ (k:Nat),k<=b.length->∀ W:World,(Instr.slice 24 (.slice a b.length cap) (some (.int .i64 (k:Int))) none none).run Tryz.prog W=.ok (sliced a k b.length cap 1) W:=fun k hk W=>B5a W a b.length cap k hk hcp
 have HS2:=Hi hs2;have HDR:=Hi (fun k (hk:k<=b.length)=>A0p (i:=k) h hk);have HGET:=Hi (fun (v2:Value) (b2:List UInt8) (W:World) (h2:A4a maxLen 1 A1e W [v2] b2) (hl:b2.length<=1048576) (hb:Below w.heap.size w W)=>F1j v2 b2 W h2 hl (hM.below hb) (hE.below hb) (hT.below hb));have HSO:Hid (A6v b=B4a b (b.length+1) 0 []):=Hi rfl;generalize A6v b=so at *;clear h hM hE hT hi hz0 hz1 hz2 hs2;go_enter Tryz.func25,Tryz.ntmps25;go_wp2_with fail
 go_loopw [5,6,7,8,9,10] (fun u5 u6 _ _ _ _ wr=>∃ (k f:Nat) (acc acc':List Ent),k<=b.length/\u6=.int .i64 (k:Int)/\b.length<=f+k/\acc.length*512<=k/\Hid (so=B4a b (f+1) k acc)/\Hid (acc'.map Ent.bare=acc.map Ent.bare)/\Hid (∀ x∈acc',∀ p,x.da=some p->w.heap.size<=p.block)/\Hid (A9g 26 wr w.heap.size u5 acc')/\Hid (Below w.heap.size w wr)) (fun _ u6 _ _ _ _ _=>b.length-(intOf u6).toNat)
 case atStart=>exact ⟨0,b.length,[],[],by omega,rfl,by omega,by simp,HSO,Hi rfl,Hi (fun x hx=>absurd hx (by simp)),Hi (A9g.nil _ _ _),Hi (Below.refl _ _)⟩
 case round =>
  obtain ⟨k,f,acc,acc',hk,rfl,hfk,hal,HSG,HBR,HPL,HOW,HB⟩:=hrel;obtain ⟨vv,rfl⟩:∃ V:Value,V=u5:=⟨_,rfl⟩;have hlen:acc'.length=acc.length:=C0f HBR.out;obtain ⟨ak,ck,hsk,hcpk⟩:=A0f (HDR.out k hk);have hsl2:∀ W:World,(Instr.slice 24 (.slice a b.length cap) (some (.int .i64 (k:Int))) none none).run Tryz.prog W=.ok (.slice ak (b.drop k).length ck) W:=fun W=>by rw [<-hsk];exact HS2.out k hk W
  have HD:=HDR.out k hk;rw [hsk] at HD;obtain ⟨bk,hbk⟩:∃ bk,bk=b.drop k:=⟨_,rfl⟩;have HQ1:=Hi (fun h=>HSG.out.trans (C5m (b:=b) (f:=f) (k:=k) (acc:=acc) h));have HQ2:=Hi (fun h h2=>HSG.out.trans (C6r (b:=b) (f:=f) (k:=k) (acc:=acc) h h2));have HQ3:=Hi (fun h h2 x n e h3 he=>HSG.out.trans (D3a (b:=b) (f:=f) (k:=k) (acc:=acc) h h2 (x:=x) (n:=n) (e:=e) h3 he));have HQ4:=Hi (fun h h2 x n h3=>HSG.out.trans (C7r (b:=b) (f:=f) (k:=k) (acc:=acc) h h2 (x:=x) (n:=n) h3));have hbl2:bk.length+k=b.length:=by rw [hbk,List.length_drop];omega
  rw [<-hbk] at HQ1 HQ2 HQ3 HQ4 HD hsl2 hcpk;clear hsk hbk HSG;by_cases hsh:bk.length<512
  ·have hd:((bk.length:Int)<512):=by omega
   have HQ:=Hi (HQ1.out hsh);clear HQ1 HQ2 HQ3 HQ4 hsh;go_wp2
   go_ret3
   rw [HQ.out];exact ⟨_,acc',rfl,HOW.out,HBR.out,by omega,HPL.out,HB.out⟩
  ·have hd:¬ ((bk.length:Int)<512):=by omega
   have htk:∀ W:World,(Instr.slice 24 (.slice ak bk.length ck) none (some (.int .i64 512)) none).run Tryz.prog W=.ok (.slice ak 512 ck) W:=fun W=>B9f W ak bk.length ck 512 (by omega) hcpk
   have htl:(bk.take 512).length=512:=by rw [List.length_take];omega
   have HZ0:=Hi (F3r (.slice ak 512 ck) (bk.take 512) wr (A3b (A2w HD (by omega)) HB.out));rw [htl] at HZ0;by_cases hz:bk.take 512=C6b 512
   ·have HQ:=Hi (HQ2.out hsh hz);have HZ1:Hid (Calls Tryz.prog 62 #[.slice ak 512 ck] wr fun e w'=>e=.returned (.bool true)/\wr=w'):=Hi (by have:=HZ0.out;rw [decide_eq_true hz] at this;exact this);clear HQ1 HQ2 HQ3 HQ4 hsh hz HZ0;go_wp2_with fail
    refine HZ1.out.mono ?_;rintro e w1 ⟨rfl,rfl⟩;go_wp2
    go_ret3
    rw [HQ.out];exact ⟨_,acc',rfl,HOW.out,HBR.out,by omega,HPL.out,HB.out⟩
   ·have HZ1:Hid (Calls Tryz.prog 62 #[.slice ak 512 ck] wr fun e w'=>e=.returned (.bool false)/\wr=w'):=Hi (by have:=HZ0.out;rw [decide_eq_false hz] at this;exact this);clear HZ0;go_wp2_with fail
    refine HZ1.out.mono ?_;rintro e w1 ⟨rfl,rfl⟩;have HDW:=Hi (A3b HD HB.out);have HCALL:=Hi (HGET.out (.slice ak bk.length ck) bk wr HDW.out (by omega) HB.out);obtain ⟨⟨y,n,e0⟩,hmo⟩:∃ q,A6s bk=q:=⟨_,rfl⟩;have HRNG:=Hi (fun he=>C4u (b:=bk) he);rw [hmo] at HCALL HRNG;simp only at HRNG;go_wp2_with fail
    refine HCALL.out.mono ?_;rintro e w2 ⟨x,rfl,hx,hb2⟩;have HB2:=Hi (HB.out.trans (hb2.mono HB.out.size));have HX:=Hi hx;have HBB:=Hi hb2;have HO2:=Hi (HOW.out.below hb2);clear hx hb2 HCALL;by_cases he:e0=0
    ·subst he;obtain ⟨m,hm,hm1,hm2⟩:=HRNG.out rfl
     (try simp only at hm)
     subst hm;have HQ:=Hi (HQ4.out hsh hz _ _ hmo);clear HQ1 HQ2 HQ3 HQ4 HRNG hsh hz hmo;go_upto_region 11 with fail
     have HA1:=Hi ((Below.refl w2.heap.size w2).alloc lr (.cells #[.string x.path,.int .i64 x.kind,.string x.target,.int .i64 x.mt.mode,.int .i64 x.mt.uid,.int .i64 x.mt.gid,.string x.mt.user,.string x.mt.group,.int .i64 x.mt.second,.int .i64 x.mt.nano,.slice x.da x.data.length x.dcap] 26));have HBX:Hid ((w2.alloc (.cells #[.string x.path,.int .i64 x.kind,.string x.target,.int .i64 x.mt.mode,.int .i64 x.mt.uid,.int .i64 x.mt.gid,.string x.mt.user,.string x.mt.group,.int .i64 x.mt.second,.int .i64 x.mt.nano,.slice x.da x.data.length x.dcap] 26)).heap[w2.heap.size]?=some (.cells #[.string x.path,.int .i64 x.kind,.string x.target,.int .i64 x.mt.mode,.int .i64 x.mt.uid,.int .i64 x.mt.gid,.string x.mt.user,.string x.mt.group,.int .i64 x.mt.second,.int .i64 x.mt.nano,.slice x.da x.data.length x.dcap] 26 (0,0))):=Hi (heap_alloc_new _ _);generalize w2.alloc (.cells #[.string x.path,.int .i64 x.kind,.string x.target,.int .i64 x.mt.mode,.int .i64 x.mt.uid,.int .i64 x.mt.gid,.string x.mt.user,.string x.mt.group,.int .i64 x.mt.second,.int .i64 x.mt.nano,.slice x.da x.data.length x.dcap] 26)=W at *;have HBW2:=Hi (HB2.out.trans (HA1.out.mono HB2.out.size));obtain ⟨c0,c1,c2,c3,c4,c5,c6,c7,c8,c9,c10⟩:=A7g HBX.out;have HA:=Hi (HBW2.out.alloc HBW2.out.size (F9q x));have HWA:=Hi ((Below.refl W.heap.size W).alloc lr (F9q x));have HO3:=Hi ((HO2.out.below HA1.out).below HWA.out);have HN3:=Hi (D6u HX.out (HA1.out.trans (HWA.out.mono HA1.out.size)) HOW.out);go_wp2_with (at_builtin;refine A9b _ rfl (.tmp 35) (.tmp 37) 32 32 rfl _ _ rfl rfl (fun ty=>A8g _ 32 32 ty w.heap.size 26 i0 _ 11 136 Tryz.underlying32 HI.out.1 HI.out.2.1 HI.out.2.2.1 HI.out.2.2.2 rfl (by decide) _ _ acc'.length 1 _ _ HO3.out.1 (E6z W _ _ _ Tryz.underlying32 x) (by unfold maxLen;omega) (by omega) HA.out.size) ?_;intro v3 w5 ho2 hg2 hv2;have HZ:=Hi (And.intro ho2 (And.intro hg2 hv2.2));clear ho2 hg2 hv2)
     have HO4:=Hi (HO3.out.app (m:=[x]) (fun z hz=>by rw [List.mem_singleton.1 hz];exact HN3.out) HZ.out.1 HZ.out.2.1 HZ.out.2.2);have HB4:=Hi (A7b HA.out HZ.out.2.1 HO3.out.1 HA.out.size);obtain ⟨f2,rfl⟩:∃ f2,f=f2+1:=⟨f-1,by omega⟩;go_wp2;go_roundw
     case rel=>exact ⟨k+m,f2,acc++[y],acc'++[x],by omega,by go_num,by omega,by simp only [List.length_append,List.length_cons,List.length_nil];omega,HQ,Hi (by rw [List.map_append,List.map_append,HBR.out];congr 1;simp only [List.map_cons,List.map_nil];rw [HX.out.1]),Hi (fun z hz p hp=>by
      rcases List.mem_append.1 hz with h|h
      ·exact HPL.out z h p hp
      ·rw [List.mem_singleton.1 h] at hp;exact Nat.le_trans HB.out.size (HX.out.2.2 p hp)),HO4,HB4⟩
     case measure=>simp [intOf];omega
    ·have hq:(e0 != 0)=true:=by rw [bne_iff_ne];exact he
     have HQ:=Hi (HQ3.out hsh hz _ _ _ hmo he);have HBF:=Hi (HB2.out.alloc HB2.out.size (.cells #[.string x.path,.int .i64 x.kind,.string x.target,.int .i64 x.mt.mode,.int .i64 x.mt.uid,.int .i64 x.mt.gid,.string x.mt.user,.string x.mt.group,.int .i64 x.mt.second,.int .i64 x.mt.nano,.slice x.da x.data.length x.dcap] 26));have HOF:=Hi (HO2.out.below ((Below.refl w2.heap.size w2).alloc lr (.cells #[.string x.path,.int .i64 x.kind,.string x.target,.int .i64 x.mt.mode,.int .i64 x.mt.uid,.int .i64 x.mt.gid,.string x.mt.user,.string x.mt.group,.int .i64 x.mt.second,.int .i64 x.mt.nano,.slice x.da x.data.length x.dcap] 26)));clear HQ1 HQ2 HQ3 HQ4 HRNG hsh hz hmo he;go_wp2
     go_ret3
     rw [HQ.out];exact ⟨_,acc',rfl,HOF.out,HBR.out,by omega,HPL.out,HBF.out⟩
theorem E3h (s : ByteArray) (b : Bool) (w : World) (hs : s.size ≤ maxLen) :
 Calls Tryz.prog 178 #[.string s,.bool b] w fun e w'=>e=.returned (.tuple #[.string (A8e s b).1,.int .i64 (A8e s b).2])/\Below w.heap.size w w':=by
 have hs':=hs;unfold maxLen at hs;by_cases h:s.size<1\/512<s.size
 ·have HF:=Hi (C3e (b:=b) h);by_cases h0:s.size=0
  ·have he:=A8h h0;clear h h0;go_enter Tryz.func178,Tryz.ntmps178;go_wp2;go_ret2;exact ⟨A1c HF.out,Below.refl _ _⟩
  ·have he:=A9e h0;have h1:512<s.size:=by omega
   clear h h0;go_enter Tryz.func178,Tryz.ntmps178;go_wp2;go_ret2;exact ⟨A1c HF.out,Below.refl _ _⟩
 ·have h1:1<=s.size:=by omega
  have h2:s.size<=512:=by omega
  have he:=A9e (a:=s) (by omega);have HN:=Hi h;clear h;go_enter Tryz.func178,Tryz.ntmps178;go_wp2
  go_loop [6] (fun i=>∃ k:Nat,k<=s.size/\i=.int .i64 k/\Hid (∀ j,j<k->byt s j≠0)) (fun i=>s.size-(intOf i).toNat)
  case atStart=>exact ⟨0,by omega,rfl,fun j hj=>absurd hj (by omega)⟩
  case round =>
   obtain ⟨k,hk,rfl,HD⟩:=hrel;have hgo:(k<s.size/\byt s k≠0)\/(k=s.size/\C0q s=k)\/(k<s.size/\byt s k=0/\C0q s=k):=by
    by_cases h1:k<s.size
    ·by_cases h2:byt s k=0
     ·exact .inr (.inr ⟨h1,h2,(E8h h1 h2 HD.out).1⟩)
     ·exact .inl ⟨h1,h2⟩
    ·obtain rfl:k=s.size:=by omega
     exact .inr (.inl ⟨rfl,(E4y HD.out).1⟩)
   have hzr:=fun w=>B2f ((s.size:Int)-k) w (by omega) (by omega)
   have ez:((s.size:Int)-k).toNat=s.size-k:=by omega
   rw [ez] at hzr;have HZ:=Hi hzr;clear hzr ez;have heq:F3h (s.extract k s.size)↔s.extract k s.size=A2j (s.size-k):=(allz_eq (by simp)).symm;rcases hgo with ⟨hlt,hne⟩|⟨hke,hzp⟩|⟨hlt,hz,hzp⟩
   ·have HB:=Hi (A4f s k hlt);have hb':s[k].toNat<256:=UInt8.toNat_lt _;have hq:(((s[k].toNat:Nat):Int) != 0)=true:=by rw [HB.out,bne_iff_ne];omega
    have HNE:=Hi hne;clear hne heq;go_wp2
    go_round
    case rel =>
     refine ⟨k+1,by omega,by go_num,fun j hj=>?_⟩;by_cases e:j=k
     ·rw [e];exact HNE.out
     ·exact HD.out j (by omega)
    case measure=>simp [intOf];omega
   ·have hall:F3h (s.extract k s.size):=by
     intro x hx;rw [hke,C9n] at hx;cases hx
    have hks:((k:Int)==(s.size:Int))=true:=by rw [beq_iff_eq];omega
    have hnl:decide ((k:Int)<(s.size:Int))=false:=by rw [decide_eq_false_iff_not];omega
    have hcmp:=sne_f (heq.1 hall);cases b with
    | false =>
      have HF:=Hi (B2i (b:=false) HN.out (.inl ⟨hzp.trans hke,rfl⟩));clear hzp hall heq hke;go_wp2;go_quiet ((go_at_call 60;exact A2n (HZ.out _)))
      go_wp2;go_ret2;exact ⟨A1c HF.out,A6a _ _ _⟩
    | true =>
      have HF:=Hi ((B1p (b:=true) HN.out (by rw [hzp];exact fun h=>h.elim (fun h=>by cases h.2) (fun h=>h hall))).trans (by rw [hzp]));clear hzp hall heq hke;go_wp2;go_quiet ((go_at_call 60;exact A2n (HZ.out _)))
      go_wp2;go_ret2;exact ⟨A1c HF.out,A6a _ _ _⟩
   ·have HB:=Hi (A4f s k hlt);have hb':s[k].toNat<256:=UInt8.toNat_lt _;have hq:(((s[k].toNat:Nat):Int) != 0)=false:=by rw [HB.out,hz];rfl
    have hks:((k:Int)==(s.size:Int))=false:=by rw [beq_eq_false_iff_ne];omega
    by_cases hall:F3h (s.extract k s.size)
    ·have hcmp:=sne_f (heq.1 hall);have HF:=Hi ((B1p (b:=b) HN.out (by rw [hzp];exact fun h=>h.elim (fun h=>by have:=h.1;omega) (fun h=>h hall))).trans (by rw [hzp]));clear hz hzp hall heq;go_wp2;go_quiet ((go_at_call 60;exact A2n (HZ.out _)))
     go_wp2;go_ret2;exact ⟨A1c HF.out,A6a _ _ _⟩
    ·have hcmp:=sne_t (fun e=>hall (heq.2 e));have HF:=Hi (B2i (b:=b) HN.out (.inr (by rw [hzp];exact hall)));clear hz hzp hall heq;go_wp2;go_quiet ((go_at_call 60;exact A2n (HZ.out _)))
     go_wp2;go_ret2;exact ⟨A1c HF.out,A6a _ _ _⟩
abbrev F4m : TypeId := 27
abbrev C1z (bw : Nat) : Value := .func (.func 176) #[] #[.pointer (some ⟨bw,0,none⟩)]
theorem C5f (bs bw bn : Nat) (s : ByteArray) (e f : Int) (w : World) (h : RefE F4m (C1z bw) w bs bw bn s e) :
 Calls Tryz.prog 176 #[.int .i64 f,.pointer (some ⟨bw,0,none⟩)] w fun x w'=>x=.returned (.tuple #[])/\RefE F4m (C1z bw) w' bs bw bn s (A5b e f)/\w.grownBy w' (some bw):=by
 have H:=Hi h;have c1:=h.wc;have f1:=h.wf;have HG:=Hi (C5v w bw 0 (.int .i64 f));clear h;by_cases h0:e=0
 ·have hq:(e==0)=true:=by rw [beq_iff_eq];exact h0
  have HN:=Hi (F7c (f:=f) h0);clear h0;go_enter Tryz.func176,Tryz.ntmps176;go_wp2
  go_end0
  rw [HN.out];exact ⟨rfl,H.out.put _,HG.out⟩
 ·have hq:(e==0)=false:=by rw [beq_eq_false_iff_ne];exact h0
  have HN:=Hi (E0k (f:=f) h0);clear h0;go_enter Tryz.func176,Tryz.ntmps176;go_wp2
  go_end0
  rw [HN.out];exact ⟨rfl,H.out,C2j _ _⟩
theorem F7i (bs bw bn : Nat) (s : ByteArray) (a b : Nat) (wh : Bool) (e : Int) (w : World) (p : ByteArray × Int) (hp : A8e (s.extract a b) wh = p) (h : RefE F4m (C1z bw) w bs bw bn s e) (hab : a ≤ b) (hb : b ≤ s.size) (hs : s.size ≤ 1000) :
 Calls Tryz.prog 177 #[.int .i64 a,.int .i64 b,.bool wh,.pointer (some ⟨bs,0,none⟩),.pointer (some ⟨bn,0,none⟩)] w fun x w'=>x=.returned (.string p.1)/\RefE F4m (C1z bw) w' bs bw bn s (A5b e p.2)/\w.grownBy w' (some bw):=by
 have HF:=Hi (fun w=>E3h (s.extract a b) wh w (by unfold maxLen;simp;omega));have HN:=Hi (fun w f h=>C5f bs bw bn s e f w h);have H:=Hi h;have c0:=h.str;rw [hp] at HF;obtain ⟨p1,p2⟩:=p;clear h hp;go_enter Tryz.func177,Tryz.ntmps177;go_wp2_with fail
 refine (HF.out _).mono ?_;rintro x w2 ⟨rfl,hb2⟩;have H2:=Hi (H.out.below hb2);have G2:=Hi (grown_below (row:=some bw) hb2);have c1:=H2.out.fn;clear hb2;go_wp2_with fail
 refine (HN.out _ _ H2.out).mono ?_;rintro x w3 ⟨rfl,h1,g1⟩;have H3:=Hi h1;have G3:=Hi (A4z G2.out g1);clear h1 g1;go_wp2;go_ret;exact ⟨rfl,H3.out,G3.out⟩
theorem F2s (bs bw bn : Nat) (s : ByteArray) (a b : Nat) (e : Int) (w : World) (p : Int × Int) (hp : A9j (s.extract a b) = p) (h : RefE F4m (C1z bw) w bs bw bn s e) (hab : a ≤ b) (hb : b ≤ s.size) (hs : s.size ≤ 1000) :
 Calls Tryz.prog 179 #[.int .i64 a,.int .i64 b,.pointer (some ⟨bs,0,none⟩),.pointer (some ⟨bn,0,none⟩)] w fun x w'=>x=.returned (.int .i64 p.1)/\RefE F4m (C1z bw) w' bs bw bn s (A5b e p.2)/\w.grownBy w' (some bw):=by
 have HF:=Hi (fun w=>E6g (s.extract a b) w (by unfold maxLen;simp;omega));have HN:=Hi (fun w f h=>C5f bs bw bn s e f w h);have H:=Hi h;have c0:=h.str;rw [hp] at HF;obtain ⟨p1,p2⟩:=p;clear h hp;go_enter Tryz.func179,Tryz.ntmps179;go_wp2_with fail
 refine (HF.out _).mono ?_;rintro x w2 ⟨rfl,hb2⟩;have H2:=Hi (H.out.below hb2);have G2:=Hi (grown_below (row:=some bw) hb2);have c1:=H2.out.fn;clear hb2;go_wp2_with fail
 refine (HN.out _ _ H2.out).mono ?_;rintro x w3 ⟨rfl,h1,g1⟩;have H3:=Hi h1;have G3:=Hi (A4z G2.out g1);clear h1 g1;go_wp2;go_ret;exact ⟨rfl,H3.out,G3.out⟩
theorem F8i (bs bw bn : Nat) (s t : ByteArray) (a b m : Nat) (e j : Int) (w : World) (hj : B6o s a b t = j) (h : RefE F4m (C1z bw) w bs bw bn s e) (hm : t.size = m) (hab : a + m = b) (hb : b ≤ s.size) (hs : s.size ≤ 1000) :
 Calls Tryz.prog 181 #[.int .i64 a,.string t,.pointer (some ⟨bs,0,none⟩),.pointer (some ⟨bn,0,none⟩)] w fun x w'=>x=.returned (.tuple #[])/\RefE F4m (C1z bw) w' bs bw bn s (A5b e j)/\w.grownBy w' (some bw):=by
 have HN:=Hi (fun w f h=>C5f bs bw bn s e f w h);have H:=Hi h;have c0:=h.str;clear h;subst hab;by_cases he:s.extract a (a+m)=t
 ·have hq:=B3n he;have HJ:=Hi (show A5b e j=e by
   rw [<-hj];unfold B6o A5b;rw [if_pos he];split<;>omega)
  clear he hj;go_enter Tryz.func181,Tryz.ntmps181;go_wp2
  go_end0
  rw [HJ.out];exact ⟨rfl,H.out,C2j _ _⟩
 ·have hq:=A5w he;have HJ:=Hi (show j=3 by rw [<-hj];unfold B6o;rw [if_neg he]);clear he hj;have c1:=H.out.fn;go_enter Tryz.func181,Tryz.ntmps181;go_wp2_with fail
  refine (HN.out _ _ H.out).mono ?_;rintro x w3 ⟨rfl,h1,g1⟩;have H3:=Hi h1;have G3:=Hi g1;clear h1 g1;go_wp2
  go_end0
  rw [HJ.out];exact ⟨rfl,H3.out,G3.out⟩
end Go.Proofs.YtaffgndickdbiaaGreatDoor
