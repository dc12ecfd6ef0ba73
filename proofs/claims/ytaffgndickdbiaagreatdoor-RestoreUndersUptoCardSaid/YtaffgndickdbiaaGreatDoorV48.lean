/- A part of the proof. -/
import Derived.Test.YtaffgndickdbiaaGreatDoorV47
set_option linter.unusedVariables false
set_option linter.unusedSimpArgs false
set_option maxRecDepth 100000
set_option maxHeartbeats 4000000
namespace Go.Creel
open Go.RowKit
def A8j (n : Nod) (p : List Nod × Bool) (x : Nod) : List Nod × Bool :=
 ((if 0<=A3o n.path x/\p.2=false then p.1++[n] else p.1)++(if A3o n.path x=0 then [] else [x]),p.2||decide (0<=A3o n.path x))
def C3i (l : List Nod) (n : Nod) (k : Nat) : List Nod × Bool := (l.take k).foldl (A8j n) ([],false)
theorem D2b {l : List Nod} {n : Nod} {k : Nat} (h : k < l.length) : C3i l n (k + 1) = A8j n (C3i l n k) (nk l k) := by
 unfold C3i;rw [C0h h,List.foldl_append];rfl
theorem D2o {n x : Nod} {o : List Nod} {d : Bool} (h : A3o n.path x = -1) : A8j n (o,d) x = (o ++ [x],d) := by unfold A8j; cases d <;> simp [h]
theorem C8q {n x : Nod} {o : List Nod} (h : A3o n.path x = 0) : A8j n (o,false) x = (o ++ [n],true) := by unfold A8j; simp [h]
theorem C7q {n x : Nod} {o : List Nod} (h : A3o n.path x = 0) : A8j n (o,true) x = (o,true) := by unfold A8j; simp [h]
theorem C0r {n x : Nod} {o : List Nod} (h : A3o n.path x = 1) : A8j n (o,false) x = (o ++ [n] ++ [x],true) := by unfold A8j; simp [h]
theorem C9q {n x : Nod} {o : List Nod} (h : A3o n.path x = 1) : A8j n (o,true) x = (o ++ [x],true) := by unfold A8j; simp [h]
theorem E1c (n : Nod) (p : List Nod × Bool) (x : Nod) (k : Nat) (h : p.1.length ≤ k + (if p.2 = true then 1 else 0)) : (A8j n p x).1.length ≤ k + 1 + (if (A8j n p x).2 = true then 1 else 0) := by
 obtain ⟨o,d⟩:=p;rcases B1o n.path x with e|e|e
 ·rw [D2o e];cases d<;>simp at h ⊢ <;> omega
 ·cases d
  ·rw [C8q e];simp at h ⊢;omega
  ·rw [C7q e];simp at h ⊢;omega
 ·cases d
  ·rw [C0r e];simp at h ⊢;omega
  ·rw [C9q e];simp at h ⊢;omega
theorem D2q (l : List Nod) (n : Nod) : ∀ k,k ≤ l.length → (C3i l n k).1.length ≤ k + (if (C3i l n k).2 = true then 1 else 0)
 | 0,_=>by simp [C3i]
 | k+1,h=>by rw [D2b (by omega)];exact E1c n _ _ k (D2q l n k (by omega))
theorem D8t (n : Nod) : ∀ (l : List Nod) (o : List Nod),l.foldl (A8j n) (o,true) = (o ++ l.filter (A2z n.path),true)
 | [],o=>by simp
 | x::l,o=>by
   rw [List.foldl_cons];have e:A8j n (o,true) x=(o++(if A3o n.path x=0 then [] else [x]),true):=by unfold A8j;simp
   rw [e,D8t n l];by_cases h:A3o n.path x=0
   ·rw [if_pos h,List.filter_cons_of_neg (by unfold A2z;simp [h]),List.append_nil]
   ·rw [if_neg h,List.filter_cons_of_pos (by unfold A2z;simp [h]),List.append_assoc];rfl
theorem D9c (n : Nod) : ∀ (l : List Nod) (o : List Nod),(l.foldl (A8j n) (o,false)).2 = true ∧ (l.foldl (A8j n) (o,false)).1 = o ++ B6h l n ∨
 (l.foldl (A8j n) (o,false)).2=false/\(l.foldl (A8j n) (o,false)).1++[n]=o++B6h l n
 | [],o => .inr ⟨rfl,by simp [B6h]⟩
 | x::l,o=>by
   rw [List.foldl_cons];by_cases hb:A3o n.path x = -1
   ·have e:A8j n (o,false) x=(o++[x],false):=by unfold A8j;simp [hb]
    have hp:B6h (x::l) n=x::B6h l n:=by
     unfold B6h;rw [List.takeWhile_cons_of_pos (by unfold A6j;simp [hb]),List.dropWhile_cons_of_pos (by unfold A6j;simp [hb])];rfl
    rw [e,hp];rcases D9c n l (o++[x]) with ⟨h1,h2⟩|⟨h1,h2⟩
    ·exact .inl ⟨h1,by rw [h2,List.append_assoc];rfl⟩
    ·exact .inr ⟨h1,by rw [h2,List.append_assoc];rfl⟩
   ·have h0:0<=A3o n.path x:=by rcases B1o n.path x with h|h|h<;>omega
    have hp:B6h (x::l) n=n::((x::l).filter (A2z n.path)):=by
     unfold B6h;rw [List.takeWhile_cons_of_neg (by unfold A6j;simp [hb]),List.dropWhile_cons_of_neg (by unfold A6j;simp [hb])];rfl
    have e:A8j n (o,false) x=((o++[n])++(if A3o n.path x=0 then [] else [x]),true):=by unfold A8j;simp [h0]
    rw [e,D8t,hp];refine .inl ⟨rfl,?_⟩;by_cases h:A3o n.path x=0
    ·rw [if_pos h,List.filter_cons_of_neg (by unfold A2z;simp [h]),List.append_nil,List.append_assoc];rfl
    ·rw [if_neg h,List.filter_cons_of_pos (by unfold A2z;simp [h]),List.append_assoc,List.append_assoc];rfl
theorem F1b (l : List Nod) (n : Nod) : (C3i l n l.length).2 = true ∧ (C3i l n l.length).1 = B6h l n ∨ (C3i l n l.length).2 = false ∧ (C3i l n l.length).1 ++ [n] = B6h l n := by
 have:=D9c n l [];unfold C3i;rw [List.take_length];simpa using this
theorem B4u.grown {w w' : World} {b o : Nat} {x : Nod} {row : Option Nat} (h : B4u w b o x) (hg : w.grownBy w' row) (hne : row ≠ some b) : B4u w' b o x := by
 have c:∀ i u,w.cell? ⟨b,i,none⟩=some u->w'.cell? ⟨b,i,none⟩=some u:=fun i u hu=>hg.cell hu (fun e=>hne e.symm)
 obtain ⟨h0,h1,h2,h3,h4,h5,h6,h7,h8,h9,h10,h11⟩:=h;exact ⟨c _ _ h0,c _ _ h1,c _ _ h2,c _ _ h3,c _ _ h4,c _ _ h5,c _ _ h6,c _ _ h7,c _ _ h8,c _ _ h9,c _ _ h10,c _ _ h11⟩
theorem D9g {l : List Nod} {n : Nod} (h : ∀ x ∈ l,x.data.length ≤ 140737488355328) (hn : n.data.length ≤ 140737488355328) : ∀ x ∈ B6h l n,x.data.length ≤ 140737488355328 := by
 intro x hx;unfold B6h at hx;rcases List.mem_append.1 hx with h1|h1
 ·exact h x ((List.takeWhile_sublist _).mem h1)
 ·rcases List.mem_cons.1 h1 with rfl|h2
  ·exact hn
  ·exact h x ((List.dropWhile_sublist _).mem (List.mem_filter.1 h2).1)
end Go.Creel
namespace Go.Proofs.YtaffgndickdbiaaGreatDoor
open Go.Creel Go.RowKit
theorem D5m (a : Option Addr) (cap : Nat) (s : ByteArray) (f : Value) (w : World) :
 Calls Tryz.prog 140 #[.slice a 0 cap,.string s,f] w fun e w'=>e=.returned (.tuple #[.int .i64 0,.bool false])/\w=w':=by
 go_enter Tryz.func140,Tryz.ntmps140;go_wp2
 go_loop [9,10,11] (fun v9 v10 _=>v9=.int .i64 0/\v10=.int .i64 0) (fun _ _ _=>0)
 case atStart=>exact ⟨rfl,rfl⟩
 case round =>
  obtain ⟨rfl,rfl⟩:=hrel;go_wp2;go_ret2;exact ⟨rfl,rfl⟩
theorem D6m (v : Value) (l : List Nod) (s : ByteArray) (w : World) (hM : A1n w) (hs : s.size ≤ 1048576) (h : A4a maxLen 12 (B6b maxLen) w [v] l) (hE : A0a l = 0) :
 Calls Tryz.prog 140 #[v,.string s,.func (.func 141) #[] #[]] w fun e w'=>e=.returned (.tuple #[.int .i64 (B4z l s),.bool (E1y l s)])/\Below w.heap.size w w':=by
 rcases A1g h with ⟨a,cap,rfl,rfl,_⟩|⟨b,off,cap,rfl,h1,h2,h3,h6,h4,h5⟩
 ·exact (D5m a cap s _ w).mono fun e w' ⟨h1,h2⟩=>⟨h1,by rw [<-h2];exact Below.refl _ _⟩
 ·exact D0z b off cap l.length l s w hM hs rfl h2 h3 h4 (D7n.1 hE).ord (fun k hk=>Nat.le_trans (A2x ((A2b hE).2 k hk)) (by omega)) (A2b hE).1
theorem PutL_ok (v : Value) (l : List Nod) (n : Nod) (w : World) (hM : A1n w) (h : A4a maxLen 12 (B6b maxLen) w [v] l) (hn : n.Ok maxLen w) (hns : n.path.size ≤ 1048576) (hnd : n.data.length ≤ 140737488355328) (hE : A0a l = 0) :
 Calls Tryz.prog 77 #[v,n.val] w (B4j 99 w (A5h l n)):=by
 obtain ⟨i0,hi,hz0,hz1,hz2⟩:=info_parts A9r;have HI:=Hi (And.intro hi (And.intro hz0 (And.intro hz1 hz2)));have HBX:=Hi ((Below.refl w.heap.size w).alloc lr (A4h n));have HNB:=Hi (A8t w n 99);have HM:=Hi (hM.below HBX.out);have H:=Hi (A8c h HBX.out);have HN:=Hi hn;obtain ⟨a,cap,rfl,hcl,hcm⟩:=F7o h;have hfew:=(A2b hE).1;have HDT:=Hi (E1n (B4c hE));have HCK:=Hi (fun w hM (h:A4a maxLen 12 (B6b maxLen) w [.slice a l.length cap] l)=>A9h _ l w hM h);rw [hE] at HCK;have HBS:=Hi (fun w hM (h:A4a maxLen 12 (B6b maxLen) w [.slice a l.length cap] l)=>D6m _ l n.path w hM hns h hE);have hil:=E3c l n.path;have HAT:=Hi (fun (h:E1y l n.path=true)=>show B4z l n.path<l.length from (of_decide_eq_true h).1);have HPE:=Hi (putL_eq (n:=n) (D7n.1 hE).ord);have HT1:=Hi (fun h=>A7y (n:=n) hE h);have HT2:=Hi (fun h=>B9d (n:=n) hE h);have hput:=D8g l n;generalize B4z l n.path=i at *;generalize E1y l n.path=fd at *;have hst:=fun w=>F1a w a l.length cap i hil hcl
 have hzero:0<(1:Nat):=by omega
 have HMW:=Hi hM;have HWH:=Hi h;clear h hM hn hns hE hi hz0 hz1 hz2;have HND:=Hi hnd;clear hnd;unfold maxLen at hcm;go_enter Tryz.func77,Tryz.ntmps77;go_wp2_with fail
 refine (HCK.out _ HM.out H.out).mono ?_;rintro e w1 ⟨rfl,hb⟩;have HB1:=Hi (HBX.out.trans (hb.mono (by simp)));have HM1:=Hi (HM.out.below hb);have H1:=Hi (A8c H.out hb);have HNB1:=Hi (HNB.out.below hb);obtain ⟨n0,_⟩:=HNB1.out.zero;clear hb;go_wp2_with fail
 refine (HBS.out _ HM1.out H1.out).mono ?_;rintro e w2 ⟨rfl,hb⟩;have HB2:=Hi (HB1.out.trans (hb.mono HB1.out.size));have HM2:=Hi (HM1.out.below hb);have H2:=Hi (A8c H1.out hb);have HNB2:=Hi (HNB1.out.below hb);clear hb n0;have hti:(l.take i).length=i:=by rw [List.length_take];omega
 go_wp2_with fail
 refine (B4w (.slice a i cap) (l.take i) _ (F8c H2.out hil) (by omega) (B5o (fun x hx=>HDT.out x (List.mem_of_mem_take hx)))).mono ?_;rintro e w3 ⟨v3,c1,rfl,ho,hbr,hb,_⟩;have HB3:=Hi (HB2.out.trans (hb.mono HB2.out.size));have HM3:=Hi (HM2.out.below hb);have H3:=Hi (A8c H2.out hb);have HNB3:=Hi (HNB2.out.below hb);have HO3:=Hi (ho.mono HB2.out.size);have HC1:=Hi hbr;have hc1:c1.length=i:=by rw [<-hti];exact A5i hbr
 clear ho hb hbr;obtain ⟨m0,m1,m2,m3,m4,m5,m6,m7,m8,m9,m10,m11⟩:=HNB3.out.zero;have HBB:=Hi ((Below.refl w3.heap.size w3).alloc lr (A4h n));have HSB:=Hi (F4g (t:=99) (HN.out.below HB3.out));go_wp2_with fail
 refine (B4w _ [n] _ HSB.out (by simp) (B5o (fun x hx=>by rw [List.mem_singleton.1 hx];exact HND.out))).mono ?_;rintro e w4 ⟨v4,c2,rfl,ho,hbr,hb,hfr⟩;have HB34:=Hi (HBB.out.trans (hb.mono HBB.out.size));have HB4:=Hi (HB3.out.trans (HB34.out.mono HB3.out.size));have HM4:=Hi (HM3.out.below HB34.out);have H4:=Hi (A8c H3.out HB34.out);have HO4:=Hi (HO3.out.below HB34.out);have hc2:c2.length=1:=A5i hbr;have HS4:=Hi (ho.slice (by unfold maxLen;omega));have HIN4:=Hi (D5i (w0:=w3) HO4.out ho.oks (fun x hx a ha=>by have:=hfr x hx a ha;simp at this;omega) HO3.out.blk);have HC2:=Hi hbr;clear ho hb hbr hfr m0 m1 m2 m3 m4 m5 m6 m7 m8 m9 m10 m11;go_upto_region 7 with (at_builtin;refine A9b _ rfl (.tmp 27) (.tmp 30) 51 51 rfl _ _ rfl rfl (fun ty=>A8g _ 51 51 ty w.heap.size 99 i0 _ 12 144 Tryz.underlying51 HI.out.1 HI.out.2.1 HI.out.2.2.1 HI.out.2.2.2 rfl (by decide) _ _ c1.length c2.length _ _ HO4.out.1 (D1g Tryz.underlying51 HS4.out) (by unfold maxLen;omega) (by omega) HB4.out.size) ?_;intro v5 w5 ho2 hg2 hv2;have HZ:=Hi (And.intro ho2 (And.intro hg2 hv2.2));clear ho2 hg2 hv2)
 have HO5:=Hi (HO4.out.app HIN4.out HZ.out.1 HZ.out.2.1 HZ.out.2.2);have HB45:=Hi HZ.out.2.1;have HB5:=Hi (A7b HB4.out HZ.out.2.1 HO4.out.1 HB4.out.size);have H5:=Hi (A8c HWH.out HB5.out);have HM5:=Hi (HMW.out.below HB5.out);cases fd with
 | true =>
   have hlt:=HAT.out rfl;have hdr:∀ w,(Instr.slice 51 (.slice a l.length cap) (some (.int .i64 ((i:Int)+1))) none none).run Tryz.prog w=.ok (sliced a (i+1) l.length cap 12) w:=fun w=>D0p w a l.length cap (i+1) (by omega) hcl
   have HS5:=Hi (D0s H5.out (i:=(i+1)) (by omega));have hld:(l.drop (i+1)).length=l.length-(i+1):=List.length_drop;have HPL:=Hi (show B6h l n=l.take i++n::l.drop (i+1) by rw [HPE.out];rfl);generalize sliced a (i+1) l.length cap 12=u at *;go_wp2_with fail
   refine (B4w u (l.drop (i+1)) _ HS5.out (by omega) (B5o (fun x hx=>HDT.out x (List.mem_of_mem_drop hx)))).mono ?_;rintro e w6 ⟨v6,c3,rfl,ho,hbr,hb,hfr⟩;have HB6:=Hi (HB5.out.trans (hb.mono HB5.out.size));have HM6:=Hi (HM5.out.below hb);have HO6:=Hi (HO5.out.below hb);have hc3:c3.length=l.length-(i+1):=by rw [<-hld];exact A5i hbr
   have HS6:=Hi (ho.slice (by unfold maxLen;omega));have HIN6:=Hi (D5i (w0:=w5) HO6.out ho.oks hfr HO5.out.blk);have HBR:=Hi (show (c1++c2++c3).map Nod.bare=(B6h l n).map Nod.bare by
    rw [HPL.out,List.map_append,List.map_append,HC1.out,HC2.out,hbr,List.map_append,List.map_cons,List.append_assoc];rfl)
   clear ho hb hbr hfr;go_upto_region 10 with (at_builtin;refine A9b _ rfl (.tmp 35) (.tmp 39) 51 51 rfl _ _ rfl rfl (fun ty=>A8g _ 51 51 ty w.heap.size 99 i0 _ 12 144 Tryz.underlying51 HI.out.1 HI.out.2.1 HI.out.2.2.1 HI.out.2.2.2 rfl (by decide) _ _ (c1++c2).length c3.length _ _ HO6.out.1 (D1g Tryz.underlying51 HS6.out) (by rw [List.length_append];unfold maxLen;omega) (by rw [List.length_append];omega) HB6.out.size) ?_;intro v7 w7 ho2 hg2 hv2;have HZ2:=Hi (And.intro ho2 (And.intro hg2 hv2.2));clear ho2 hg2 hv2)
   have HO7:=Hi (HO6.out.app HIN6.out HZ2.out.1 HZ2.out.2.1 HZ2.out.2.2);have HB7:=Hi (A7b HB6.out HZ2.out.2.1 HO6.out.1 HB6.out.size);have HM7:=Hi (HMW.out.below HB7.out);have HCK2:=Hi (A9h v7 _ w7 HM7.out (HO7.out.slice (by rw [List.length_append,List.length_append];unfold maxLen;omega)));rw [C3m HBR.out] at HCK2;by_cases hT:A0a (B6h l n)=0
   ·have HF:=Hi (HT2.out hT);rw [hT] at HCK2;clear hT;go_wp2_with fail
    refine HCK2.out.mono ?_;rintro e w8 ⟨rfl,hb⟩;have HB8:=Hi (HB7.out.trans (hb.mono HB7.out.size));have HO8:=Hi (HO7.out.below hb);clear hb;go_wp2;go_ret2;rw [HF.out];exact ⟨_,_,rfl,HO8.out,HBR.out,HB8.out⟩
   ·have HF:=Hi (HT1.out hT);generalize A0a (B6h l n)=tf at *;have hq:(tf==0)=false:=by rw [beq_eq_false_iff_ne];exact hT
    clear hT;go_wp2_with fail
    refine HCK2.out.mono ?_;rintro e w8 ⟨rfl,hb⟩;have HB8:=Hi (HB7.out.trans (hb.mono HB7.out.size));clear hb;go_wp2;go_ret2;rw [HF.out];exact ⟨_,[],rfl,A2a.nil _ _ _,rfl,HB8.out⟩
 | false =>
   have hdr:∀ w,(Instr.slice 51 (.slice a l.length cap) (some (.int .i64 (i:Int))) none none).run Tryz.prog w=.ok (sliced a i l.length cap 12) w:=fun w=>D0p w a l.length cap i (by omega) hcl
   have HS5:=Hi (D0s H5.out (i:=i) (by omega));have hld:(l.drop i).length=l.length-i:=List.length_drop;have HPL:=Hi (show B6h l n=l.take i++n::l.drop i by rw [HPE.out];rfl);generalize sliced a i l.length cap 12=u at *;go_wp2_with fail
   refine (B4w u (l.drop i) _ HS5.out (by omega) (B5o (fun x hx=>HDT.out x (List.mem_of_mem_drop hx)))).mono ?_;rintro e w6 ⟨v6,c3,rfl,ho,hbr,hb,hfr⟩;have HB6:=Hi (HB5.out.trans (hb.mono HB5.out.size));have HM6:=Hi (HM5.out.below hb);have HO6:=Hi (HO5.out.below hb);have hc3:c3.length=l.length-i:=by rw [<-hld];exact A5i hbr
   have HS6:=Hi (ho.slice (by unfold maxLen;omega));have HIN6:=Hi (D5i (w0:=w5) HO6.out ho.oks hfr HO5.out.blk);have HBR:=Hi (show (c1++c2++c3).map Nod.bare=(B6h l n).map Nod.bare by
    rw [HPL.out,List.map_append,List.map_append,HC1.out,HC2.out,hbr,List.map_append,List.map_cons,List.append_assoc];rfl)
   clear ho hb hbr hfr;go_upto_region 10 with (at_builtin;refine A9b _ rfl (.tmp 35) (.tmp 39) 51 51 rfl _ _ rfl rfl (fun ty=>A8g _ 51 51 ty w.heap.size 99 i0 _ 12 144 Tryz.underlying51 HI.out.1 HI.out.2.1 HI.out.2.2.1 HI.out.2.2.2 rfl (by decide) _ _ (c1++c2).length c3.length _ _ HO6.out.1 (D1g Tryz.underlying51 HS6.out) (by rw [List.length_append];unfold maxLen;omega) (by rw [List.length_append];omega) HB6.out.size) ?_;intro v7 w7 ho2 hg2 hv2;have HZ2:=Hi (And.intro ho2 (And.intro hg2 hv2.2));clear ho2 hg2 hv2)
   have HO7:=Hi (HO6.out.app HIN6.out HZ2.out.1 HZ2.out.2.1 HZ2.out.2.2);have HB7:=Hi (A7b HB6.out HZ2.out.2.1 HO6.out.1 HB6.out.size);have HM7:=Hi (HMW.out.below HB7.out);have HCK2:=Hi (A9h v7 _ w7 HM7.out (HO7.out.slice (by rw [List.length_append,List.length_append];unfold maxLen;omega)));rw [C3m HBR.out] at HCK2;by_cases hT:A0a (B6h l n)=0
   ·have HF:=Hi (HT2.out hT);rw [hT] at HCK2;clear hT;go_wp2_with fail
    refine HCK2.out.mono ?_;rintro e w8 ⟨rfl,hb⟩;have HB8:=Hi (HB7.out.trans (hb.mono HB7.out.size));have HO8:=Hi (HO7.out.below hb);clear hb;go_wp2;go_ret2;rw [HF.out];exact ⟨_,_,rfl,HO8.out,HBR.out,HB8.out⟩
   ·have HF:=Hi (HT1.out hT);generalize A0a (B6h l n)=tf at *;have hq:(tf==0)=false:=by rw [beq_eq_false_iff_ne];exact hT
    clear hT;go_wp2_with fail
    refine HCK2.out.mono ?_;rintro e w8 ⟨rfl,hb⟩;have HB8:=Hi (HB7.out.trans (hb.mono HB7.out.size));clear hb;go_wp2;go_ret2;rw [HF.out];exact ⟨_,[],rfl,A2a.nil _ _ _,rfl,HB8.out⟩
theorem F5s (v : Value) (l : List Nod) (n : Nod) (w : World) (hM : A1n w) (h : A4a maxLen 12 (B6b maxLen) w [v] l) (hn : n.Ok maxLen w) (hns : n.path.size ≤ 1048576) (hnd : n.data.length ≤ 140737488355328) :
 Calls Tryz.prog 77 #[v,n.val] w (B4j 99 w (A5h l n)):=by
 by_cases hE:A0a l=0
 ·exact PutL_ok v l n w hM h hn hns hnd hE
 ·have HBX:=Hi ((Below.refl w.heap.size w).alloc lr (A4h n));have HC:=Hi (A9h v l _ (hM.below HBX.out) (A8c h HBX.out));have HF:=Hi (B4f (n:=n) hE);generalize A0a l=tf at *;have hq:(tf==0)=false:=by rw [beq_eq_false_iff_ne];exact hE
  clear hE h hn hM hns hnd;go_enter Tryz.func77,Tryz.ntmps77;go_wp2_with fail
  refine HC.out.mono ?_;rintro e w1 ⟨rfl,hb⟩;have HB1:=Hi (HBX.out.trans (hb.mono (by simp)));clear hb;go_wp2;go_ret2;rw [HF.out];exact ⟨_,[],rfl,A2a.nil _ _ _,rfl,HB1.out⟩
theorem PutR_at (b off cap : Nat) (l : List Nod) (n : Nod) (w : World) (hpos : 0 < l.length) (hle : l.length ≤ cap) (hm : cap ≤ maxLen) (hc : A5p w b off l) (hok : ∀ i,i < l.length → (nk l i).Ok maxLen w) (h : A4a maxLen 12 (B6b maxLen) w [.slice (some ⟨b,off,none⟩) l.length cap] l)
 (hn:n.Ok maxLen w) (hns:n.path.size<=1048576) (hnd:n.data.length<=140737488355328) (hE:A0a l=0) :
 Calls Tryz.prog 81 #[.slice (some ⟨b,off,none⟩) l.length cap,n.val] w (B4j 99 w (A5h l n)):=by
 obtain ⟨i0,hi,hz0,hz1,hz2⟩:=info_parts A9r;have HI:=Hi (And.intro hi (And.intro hz0 (And.intro hz1 hz2)));have HBX:=Hi ((Below.refl w.heap.size w).alloc lr (A4h n));have HNB:=Hi (A8t w n 99);have HC:=Hi (hc.below HBX.out);have HK:=Hi (fun i hi=>(hok i hi).below HBX.out);have HN:=Hi hn;have HKW:=Hi hok;unfold maxLen at hm;have hfew:=(A2b hE).1;have HDT:=Hi (E1n (B4c hE));have HND:=Hi hnd;have HCK:=Hi (A0e _ l _ (A8c h HBX.out));rw [hE] at HCK;have HPO:=Hi (fun k (hk:k<l.length) w=>B3q (nk l k).path n.path w (Nat.le_trans (A2x ((A2b hE).2 k hk)) (by omega)) hns);have HALL:=Hi (F1b l n);have HSUC:=Hi (fun k hk=>D2b (l:=l) (n:=n) (k:=k) hk);have HLEN:=Hi (fun k hk=>D2q l n k hk);have HT1:=Hi (fun h=>A7y (n:=n) hE h);have HT2:=Hi (fun h=>B9d (n:=n) hE h);clear h hc hok hn hns hE hi hz0 hz1 hz2 hnd;go_enter Tryz.func81,Tryz.ntmps81;go_wp2_with fail
 refine HCK.out.mono ?_;rintro e w1 ⟨rfl,hb⟩;have HB1:=Hi (HBX.out.trans (hb.mono (by simp)));have HC1:=Hi (HC.out.below hb);have HNB1:=Hi (HNB.out.below hb);have HK1:=Hi (fun i (hi:i<l.length)=>(HKW.out i hi).below HB1.out);have HN1:=Hi (HN.out.below HB1.out);clear hb;go_wp2;go_loopw [7,8,10,11,20] (fun v7 v8 _ _ i wr=>∃ (k:Nat) (vv:Value) (o:List Nod) (d:Bool),k<=l.length/\i=.int .i64 k/\vv=v7/\v8=.bool d/\Hid ((o,d)=C3i l n k)/\Hid (A2a 99 wr w1.heap.size vv o)/\Hid (Below w1.heap.size w1 wr)) (fun _ _ _ _ i _=>l.length-(intOf i).toNat)
 case atStart=>exact ⟨0,_,[],false,by omega,rfl,rfl,rfl,Hi rfl,Hi (A2a.nil _ _ _),Hi (Below.refl _ _)⟩
 case round =>
  obtain ⟨k,vv,o,d,hk,rfl,rfl,rfl,HP,HOW,HB⟩:=hrel;have HNB2:=Hi (HNB1.out.below HB.out);have HWR:=Hi (HB1.out.trans (HB.out.mono HB1.out.size));have hol:o.length<=k+1:=by
   have:=HLEN.out k hk;rw [<-HP.out] at this;cases d<;>simp at this<;>omega
  by_cases hlt:k<l.length
  ·obtain ⟨h0,h1,h2,h3,h4,h5,h6,h7,h8,h9,h10,h11⟩:=(HC1.out.below HB.out) k hlt;have HKX:=Hi (HK1.out k hlt);have HXW:=Hi (show wr.heap.size=wr.heap.size from rfl);have HST:=Hi (show C3i l n (k+1)=A8j n (o,d) (nk l k) by rw [HSUC.out k hlt,HP.out]);have HCALL:=Hi (HPO.out k hlt);have HRG:=Hi (B1o n.path (nk l k));have HSL:=Hi (fun d h=>D2o (n:=n) (x:=nk l k) (o:=o) (d:=d) h);have HSF:=Hi (fun h=>C8q (n:=n) (x:=nk l k) (o:=o) h);have HSS:=Hi (fun h=>C7q (n:=n) (x:=nk l k) (o:=o) h);have HMF:=Hi (fun h=>C0r (n:=n) (x:=nk l k) (o:=o) h);have HMT:=Hi (fun h=>C9q (n:=n) (x:=nk l k) (o:=o) h);rw [show B7b (A8a (nk l k).path) (A8a n.path)=A3o n.path (nk l k) from rfl] at HCALL;generalize nk l k=x at *;generalize A3o n.path x=c at *;have HBB:=Hi ((Below.refl wr.heap.size wr).alloc lr (A4h x));have HXZ:=Hi (A8t wr x 99);obtain ⟨n0,_⟩:=(HNB2.out.below HBB.out).zero;go_wp2_with fail
   refine (HCALL.out _).mono ?_;rintro e w3 ⟨rfl,hb⟩;have HB3:=Hi (HBB.out.trans (hb.mono HBB.out.size));have HW3:=Hi (HWR.out.trans (HB3.out.mono HWR.out.size));have HO3:=Hi (HOW.out.below HB3.out);have HX3:=Hi (HXZ.out.below hb);have HN3:=Hi (HNB2.out.below HB3.out);have HR3:=Hi (HB.out.trans (HB3.out.mono HB.out.size));clear hb n0;obtain ⟨c0,c1,c2,c3,c4,c5,c6,c7,c8,c9,c10,c11⟩:=HX3.out.zero;obtain ⟨m0,m1,m2,m3,m4,m5,m6,m7,m8,m9,m10,m11⟩:=HN3.out.zero;have HXA:=Hi (HR3.out.alloc HR3.out.size (A4h x));have HXO:=Hi (HO3.out.below ((Below.refl w3.heap.size w3).alloc lr (A4h x)));have HXN:=Hi (B9a HKX.out HXA.out HOW.out);have HNA:=Hi (HR3.out.alloc HR3.out.size (A4h n));have HNO:=Hi (HO3.out.below ((Below.refl w3.heap.size w3).alloc lr (A4h n)));have HNN:=Hi (B9a HN1.out HNA.out HOW.out);rcases HRG.out with rfl|rfl|rfl
   ·have HE:=Hi (HST.out.trans (HSL.out d rfl));clear HSL HSF HSS HMF HMT HRG;go_wp2_with (at_builtin;refine A9b _ rfl (.tmp 41) (.tmp 43) 51 51 rfl _ _ rfl rfl (fun ty=>A8g _ 51 51 ty w1.heap.size 99 i0 _ 12 144 Tryz.underlying51 HI.out.1 HI.out.2.1 HI.out.2.2.1 HI.out.2.2.2 rfl (by decide) _ _ o.length 1 _ _ HXO.out.1 (B9i w3 _ _ _ Tryz.underlying51 x) (by unfold maxLen;omega) (by omega) HXA.out.size) ?_;intro v5 w5 ho2 hg2 hv2;have HZ:=Hi (And.intro ho2 (And.intro hg2 hv2.2));clear ho2 hg2 hv2)
    have HO5:=Hi (HXO.out.app (m:=[x]) (fun y hy=>by rw [List.mem_singleton.1 hy];exact HXN.out) HZ.out.1 HZ.out.2.1 HZ.out.2.2);have HB5:=Hi (A7b HXA.out HZ.out.2.1 HXO.out.1 HXA.out.size);go_wp2;go_roundw
    case rel=>exact ⟨k+1,_,_,d,by omega,by go_num,rfl,rfl,Hi HE.out.symm,HO5,HB5⟩
    case measure=>simp [intOf];omega
   ·cases d with
    | true =>
      have HE:=Hi (HST.out.trans (HSS.out rfl));clear HSL HSF HSS HMF HMT HRG;go_wp2;go_roundw
      case rel=>exact ⟨k+1,_,_,true,by omega,by go_num,rfl,rfl,Hi HE.out.symm,HO3,HR3⟩
      case measure=>simp [intOf];omega
    | false =>
      have HE:=Hi (HST.out.trans (HSF.out rfl));clear HSL HSF HSS HMF HMT HRG;go_wp2_with (at_builtin;refine A9b _ rfl (.tmp 35) (.tmp 37) 51 51 rfl _ _ rfl rfl (fun ty=>A8g _ 51 51 ty w1.heap.size 99 i0 _ 12 144 Tryz.underlying51 HI.out.1 HI.out.2.1 HI.out.2.2.1 HI.out.2.2.2 rfl (by decide) _ _ o.length 1 _ _ HNO.out.1 (B9i w3 _ _ _ Tryz.underlying51 n) (by unfold maxLen;omega) (by omega) HNA.out.size) ?_;intro v5 w5 ho2 hg2 hv2;have HZ:=Hi (And.intro ho2 (And.intro hg2 hv2.2));clear ho2 hg2 hv2)
      have HO5:=Hi (HNO.out.app (m:=[n]) (fun y hy=>by rw [List.mem_singleton.1 hy];exact HNN.out) HZ.out.1 HZ.out.2.1 HZ.out.2.2);have HB5:=Hi (A7b HNA.out HZ.out.2.1 HNO.out.1 HNA.out.size);go_wp2;go_roundw
      case rel=>exact ⟨k+1,_,_,true,by omega,by go_num,rfl,rfl,Hi HE.out.symm,HO5,HB5⟩
      case measure=>simp [intOf];omega
   ·cases d with
    | true =>
      have HE:=Hi (HST.out.trans (HMT.out rfl));clear HSL HSF HSS HMF HMT HRG;go_wp2_with (at_builtin;refine A9b _ rfl (.tmp 41) (.tmp 43) 51 51 rfl _ _ rfl rfl (fun ty=>A8g _ 51 51 ty w1.heap.size 99 i0 _ 12 144 Tryz.underlying51 HI.out.1 HI.out.2.1 HI.out.2.2.1 HI.out.2.2.2 rfl (by decide) _ _ o.length 1 _ _ HXO.out.1 (B9i w3 _ _ _ Tryz.underlying51 x) (by unfold maxLen;omega) (by omega) HXA.out.size) ?_;intro v5 w5 ho2 hg2 hv2;have HZ:=Hi (And.intro ho2 (And.intro hg2 hv2.2));clear ho2 hg2 hv2)
      have HO5:=Hi (HXO.out.app (m:=[x]) (fun y hy=>by rw [List.mem_singleton.1 hy];exact HXN.out) HZ.out.1 HZ.out.2.1 HZ.out.2.2);have HB5:=Hi (A7b HXA.out HZ.out.2.1 HXO.out.1 HXA.out.size);go_wp2;go_roundw
      case rel=>exact ⟨k+1,_,_,true,by omega,by go_num,rfl,rfl,Hi HE.out.symm,HO5,HB5⟩
      case measure=>simp [intOf];omega
    | false =>
      have HE:=Hi (HST.out.trans (HMF.out rfl));clear HSL HSF HSS HMF HMT HRG;go_upto_region 14 with (at_builtin;refine A9b _ rfl (.tmp 35) (.tmp 37) 51 51 rfl _ _ rfl rfl (fun ty=>A8g _ 51 51 ty w1.heap.size 99 i0 _ 12 144 Tryz.underlying51 HI.out.1 HI.out.2.1 HI.out.2.2.1 HI.out.2.2.2 rfl (by decide) _ _ o.length 1 _ _ HNO.out.1 (B9i w3 _ _ _ Tryz.underlying51 n) (by unfold maxLen;omega) (by omega) HNA.out.size) ?_;intro v5 w5 ho2 hg2 hv2;have HZ:=Hi (And.intro ho2 (And.intro hg2 hv2.2));clear ho2 hg2 hv2)
      have HO5:=Hi (HNO.out.app (m:=[n]) (fun y hy=>by rw [List.mem_singleton.1 hy];exact HNN.out) HZ.out.1 HZ.out.2.1 HZ.out.2.2);have HB5:=Hi (A7b HNA.out HZ.out.2.1 HNO.out.1 HNA.out.size);have HX5:=Hi ((HX3.out.below ((Below.refl w3.heap.size w3).alloc lr (A4h n))).grown HZ.out.2.1 (fun e=>by have:=HOW.out.blk _ e;omega));obtain ⟨c0,c1,c2,c3,c4,c5,c6,c7,c8,c9,c10,c11⟩:=HX5.out.zero;have HXA5:=Hi (HB5.out.alloc HB5.out.size (A4h x));have HXO5:=Hi (HO5.out.below ((Below.refl w5.heap.size w5).alloc lr (A4h x)));have HXN5:=Hi (B9a HKX.out HXA5.out HO5.out);go_wp2_with (at_builtin;refine A9b _ rfl (.tmp 41) (.tmp 43) 51 51 rfl _ _ rfl rfl (fun ty=>A8g _ 51 51 ty w1.heap.size 99 i0 _ 12 144 Tryz.underlying51 HI.out.1 HI.out.2.1 HI.out.2.2.1 HI.out.2.2.2 rfl (by decide) _ _ (o++[n]).length 1 _ _ HXO5.out.1 (B9i w5 _ _ _ Tryz.underlying51 x) (by rw [List.length_append,List.length_singleton];unfold maxLen;omega) (by rw [List.length_append,List.length_singleton];omega) HXA5.out.size) ?_;intro v6 w6 ho2 hg2 hv2;have HZ6:=Hi (And.intro ho2 (And.intro hg2 hv2.2));clear ho2 hg2 hv2)
      have HO6:=Hi (HXO5.out.app (m:=[x]) (fun y hy=>by rw [List.mem_singleton.1 hy];exact HXN5.out) HZ6.out.1 HZ6.out.2.1 HZ6.out.2.2);have HB6:=Hi (A7b HXA5.out HZ6.out.2.1 HXO5.out.1 HXA5.out.size);go_wp2;go_roundw
      case rel=>exact ⟨k+1,_,_,true,by omega,by go_num,rfl,rfl,Hi HE.out.symm,HO6,HB6⟩
      case measure=>simp [intOf];omega
  ·obtain rfl:k=l.length:=by omega
   have HA:=Hi HALL.out;rw [<-HP.out] at HA;have hputl:=D8g l n;obtain ⟨m0,m1,m2,m3,m4,m5,m6,m7,m8,m9,m10,m11⟩:=HNB2.out.zero;cases d with
   | true =>
     have HPL:=Hi (show o=B6h l n from by rcases HA.out with h|h;exact h.2;exact absurd h.1 (by simp));have HSL:=Hi (HOW.out.slice (by rw [HPL.out];unfold maxLen;omega));have HCK2:=Hi (A0e _ _ _ HSL.out);rw [HPL.out] at HCK2;by_cases hT:A0a (B6h l n)=0
     ·have HF:=Hi (HT2.out hT);rw [hT] at HCK2;clear hT;go_wp2_with fail
      refine HCK2.out.mono ?_;rintro e w8 ⟨rfl,hb⟩;have HB8:=Hi (HB.out.trans (hb.mono HB.out.size));have HO8:=Hi (A8c HSL.out hb);rw [HPL.out] at HO8;clear hb;go_wp2_with fail
      refine (B9m _ _ _ HO8.out (by omega) (B5o (D9g HDT.out HND.out))).mono ?_;rintro e w9 ⟨v9,m,rfl,ho,hbr,hb⟩;have HB9:=Hi (HB8.out.trans (hb.mono HB8.out.size));have HO9:=Hi (ho.mono (Nat.le_trans HB1.out.size HB8.out.size));have HBR:=Hi hbr;clear ho hbr hb;go_wp2;go_ret2;rw [HF.out];exact ⟨_,m,rfl,HO9.out,HBR.out,HB1.out.trans (HB9.out.mono HB1.out.size)⟩
     ·have HF:=Hi (HT1.out hT);generalize A0a (B6h l n)=tf at *;have hq:(tf==0)=false:=by rw [beq_eq_false_iff_ne];exact hT
      clear hT;go_wp2_with fail
      refine HCK2.out.mono ?_;rintro e w8 ⟨rfl,hb⟩;have HB8:=Hi (HB.out.trans (hb.mono HB.out.size));clear hb;go_wp2;go_ret2;rw [HF.out];exact ⟨_,[],rfl,A2a.nil _ _ _,rfl,HB1.out.trans (HB8.out.mono HB1.out.size)⟩
   | false =>
     have HPL:=Hi (show o++[n]=B6h l n from by rcases HA.out with h|h;exact absurd h.1 (by simp);exact h.2);have HNA:=Hi (HB.out.alloc HB.out.size (A4h n));have HNO:=Hi (HOW.out.below ((Below.refl wr.heap.size wr).alloc lr (A4h n)));have HNN:=Hi (B9a HN1.out HNA.out HOW.out);go_upto_region 18 with (at_builtin;refine A9b _ rfl (.tmp 48) (.tmp 50) 51 51 rfl _ _ rfl rfl (fun ty=>A8g _ 51 51 ty w1.heap.size 99 i0 _ 12 144 Tryz.underlying51 HI.out.1 HI.out.2.1 HI.out.2.2.1 HI.out.2.2.2 rfl (by decide) _ _ o.length 1 _ _ HNO.out.1 (B9i wr _ _ _ Tryz.underlying51 n) (by unfold maxLen;omega) (by omega) HNA.out.size) ?_;intro v5 w5 ho2 hg2 hv2;have HZ:=Hi (And.intro ho2 (And.intro hg2 hv2.2));clear ho2 hg2 hv2)
     have HO5:=Hi (HNO.out.app (m:=[n]) (fun y hy=>by rw [List.mem_singleton.1 hy];exact HNN.out) HZ.out.1 HZ.out.2.1 HZ.out.2.2);have HB5:=Hi (A7b HNA.out HZ.out.2.1 HNO.out.1 HNA.out.size);have HSL:=Hi (HO5.out.slice (by rw [HPL.out];unfold maxLen;omega));have HCK2:=Hi (A0e _ _ _ HSL.out);rw [HPL.out] at HCK2;by_cases hT:A0a (B6h l n)=0
     ·have HF:=Hi (HT2.out hT);rw [hT] at HCK2;clear hT;go_wp2_with fail
      refine HCK2.out.mono ?_;rintro e w8 ⟨rfl,hb⟩;have HB8:=Hi (HB5.out.trans (hb.mono HB5.out.size));have HO8:=Hi (A8c HSL.out hb);rw [HPL.out] at HO8;clear hb;go_wp2_with fail
      refine (B9m _ _ _ HO8.out (by omega) (B5o (D9g HDT.out HND.out))).mono ?_;rintro e w9 ⟨v9,m,rfl,ho,hbr,hb⟩;have HB9:=Hi (HB8.out.trans (hb.mono HB8.out.size));have HO9:=Hi (ho.mono (Nat.le_trans HB1.out.size HB8.out.size));have HBR:=Hi hbr;clear ho hbr hb;go_wp2;go_ret2;rw [HF.out];exact ⟨_,m,rfl,HO9.out,HBR.out,HB1.out.trans (HB9.out.mono HB1.out.size)⟩
     ·have HF:=Hi (HT1.out hT);generalize A0a (B6h l n)=tf at *;have hq:(tf==0)=false:=by rw [beq_eq_false_iff_ne];exact hT
      clear hT;go_wp2_with fail
      refine HCK2.out.mono ?_;rintro e w8 ⟨rfl,hb⟩;have HB8:=Hi (HB5.out.trans (hb.mono HB5.out.size));clear hb;go_wp2;go_ret2;rw [HF.out];exact ⟨_,[],rfl,A2a.nil _ _ _,rfl,HB1.out.trans (HB8.out.mono HB1.out.size)⟩
theorem F3s (a : Option Addr) (cap : Nat) (n : Nod) (w : World) (h : A4a maxLen 12 (B6b maxLen) w [.slice a 0 cap] [])
 (hn:n.Ok maxLen w) (hns:n.path.size<=1048576) (hnd:n.data.length<=140737488355328) :
 Calls Tryz.prog 81 #[.slice a 0 cap,n.val] w (B4j 99 w (A5h [] n)):=by
 obtain ⟨i0,hi,hz0,hz1,hz2⟩:=info_parts A9r;have HI:=Hi (And.intro hi (And.intro hz0 (And.intro hz1 hz2)));have HBX:=Hi ((Below.refl w.heap.size w).alloc lr (A4h n));have HNB:=Hi (A8t w n 99);have HN:=Hi hn;have HND:=Hi hnd;have hE:=A3g;have HCK:=Hi (A0e _ [] _ (A8c h HBX.out));rw [hE] at HCK;have HT1:=Hi (fun h=>A7y (n:=n) hE h);have HT2:=Hi (fun h=>B9d (n:=n) hE h);have HDT:=Hi (show ∀ x∈([]:List Nod),x.data.length<=140737488355328 from fun x hx=>absurd hx (by simp));have hputl:=D8g [] n;simp only [List.length_nil,Nat.zero_add] at hputl;clear h hn hns hE hi hz0 hz1 hz2 hnd;go_enter Tryz.func81,Tryz.ntmps81;go_wp2_with fail
 refine HCK.out.mono ?_;rintro e w1 ⟨rfl,hb⟩;have HB1:=Hi (HBX.out.trans (hb.mono (by simp)));have HNB1:=Hi (HNB.out.below hb);have HN1:=Hi (HN.out.below HB1.out);obtain ⟨m0,m1,m2,m3,m4,m5,m6,m7,m8,m9,m10,m11⟩:=HNB1.out.zero;have HOW:=Hi (A2a.nil 99 w1 w1.heap.size);have HB:=Hi (Below.refl w1.heap.size w1);clear hb;go_wp2;go_loopw [7,8,10,11,20] (fun v7 v8 _ _ i wr=>v7=.slice none 0 0/\v8=.bool false/\i=.int .i64 0/\wr=w1) (fun _ _ _ _ _ _=>0)
 case atStart=>exact ⟨rfl,rfl,rfl,rfl⟩
 case round =>
  obtain ⟨rfl,rfl,rfl,hw⟩:=hrel;rw [hw];clear hw;have HPL:=Hi (show ([]:List Nod)++[n]=B6h [] n from rfl);have HNA:=Hi (HB.out.alloc HB.out.size (A4h n));have HNO:=Hi (HOW.out.below ((Below.refl w1.heap.size w1).alloc lr (A4h n)));have HNN:=Hi (B9a HN1.out HNA.out HOW.out);go_upto_region 18 with (at_builtin;refine A9b _ rfl (.tmp 48) (.tmp 50) 51 51 rfl _ _ rfl rfl (fun ty=>A8g _ 51 51 ty w1.heap.size 99 i0 _ 12 144 Tryz.underlying51 HI.out.1 HI.out.2.1 HI.out.2.2.1 HI.out.2.2.2 rfl (by decide) _ _ ([]:List Nod).length 1 _ _ HNO.out.1 (B9i w1 _ _ _ Tryz.underlying51 n) (by unfold maxLen;simp) (by simp) HNA.out.size) ?_;intro v5 w5 ho2 hg2 hv2;have HZ:=Hi (And.intro ho2 (And.intro hg2 hv2.2));clear ho2 hg2 hv2)
  have HO5:=Hi (HNO.out.app (m:=[n]) (fun y hy=>by rw [List.mem_singleton.1 hy];exact HNN.out) HZ.out.1 HZ.out.2.1 HZ.out.2.2);have HB5:=Hi (A7b HNA.out HZ.out.2.1 HNO.out.1 HNA.out.size);have HSL:=Hi (HO5.out.slice (by rw [HPL.out];unfold maxLen;omega));have HCK2:=Hi (A0e _ _ _ HSL.out);rw [HPL.out] at HCK2;by_cases hT:A0a (B6h [] n)=0
  ·have HF:=Hi (HT2.out hT);rw [hT] at HCK2;clear hT;go_wp2_with fail
   refine HCK2.out.mono ?_;rintro e w8 ⟨rfl,hb⟩;have HB8:=Hi (HB5.out.trans (hb.mono HB5.out.size));have HO8:=Hi (A8c HSL.out hb);rw [HPL.out] at HO8;clear hb;go_wp2_with fail
   refine (B9m _ _ _ HO8.out (by omega) (B5o (D9g HDT.out HND.out))).mono ?_;rintro e w9 ⟨v9,m,rfl,ho,hbr,hb⟩;have HB9:=Hi (HB8.out.trans (hb.mono HB8.out.size));have HO9:=Hi (ho.mono (Nat.le_trans HB1.out.size HB8.out.size));have HBR:=Hi hbr;clear ho hbr hb;go_wp2;go_ret2;rw [HF.out];exact ⟨_,m,rfl,HO9.out,HBR.out,HB1.out.trans (HB9.out.mono HB1.out.size)⟩
  ·have HF:=Hi (HT1.out hT);generalize A0a (B6h [] n)=tf at *;have hq:(tf==0)=false:=by rw [beq_eq_false_iff_ne];exact hT
   clear hT;go_wp2_with fail
   refine HCK2.out.mono ?_;rintro e w8 ⟨rfl,hb⟩;have HB8:=Hi (HB5.out.trans (hb.mono HB5.out.size));clear hb;go_wp2;go_ret2;rw [HF.out];exact ⟨_,[],rfl,A2a.nil _ _ _,rfl,HB1.out.trans (HB8.out.mono HB1.out.size)⟩
theorem F4s (v : Value) (l : List Nod) (n : Nod) (w : World) (h : A4a maxLen 12 (B6b maxLen) w [v] l) (hn : n.Ok maxLen w) (hns : n.path.size ≤ 1048576) (hnd : n.data.length ≤ 140737488355328) :
 Calls Tryz.prog 81 #[v,n.val] w (B4j 99 w (A5h l n)):=by
 by_cases hE:A0a l=0
 ·rcases A1g h with ⟨a,cap,rfl,rfl,_⟩|⟨b,off,cap,rfl,h1,h2,h3,h6,h4,h5⟩
  ·exact F3s a cap n w h hn hns hnd
  ·exact PutR_at b off cap l n w h1 h2 h3 h4 h5 h hn hns hnd hE
 ·have HBX:=Hi ((Below.refl w.heap.size w).alloc lr (A4h n));have HC:=Hi (A0e v l _ (A8c h HBX.out));have HF:=Hi (B4f (n:=n) hE);generalize A0a l=tf at *;have hq:(tf==0)=false:=by rw [beq_eq_false_iff_ne];exact hE
  clear hE h hn hns hnd;go_enter Tryz.func81,Tryz.ntmps81;go_wp2_with fail
  refine HC.out.mono ?_;rintro e w1 ⟨rfl,hb⟩;have HB1:=Hi (HBX.out.trans (hb.mono (by simp)));clear hb;go_wp2;go_ret2;rw [HF.out];exact ⟨_,[],rfl,A2a.nil _ _ _,rfl,HB1.out⟩
end Go.Proofs.YtaffgndickdbiaaGreatDoor
