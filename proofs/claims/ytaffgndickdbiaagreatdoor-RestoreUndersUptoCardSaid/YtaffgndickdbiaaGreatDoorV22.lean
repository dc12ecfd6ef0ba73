/- A part of the proof. -/
import Derived.Test.YtaffgndickdbiaaGreatDoorV21
set_option linter.unusedVariables false
set_option linter.unusedSimpArgs false
set_option maxRecDepth 100000
set_option maxHeartbeats 1000000
namespace Go.Creel
open Go.RowKit
theorem A8i {fn : Func} {p u x y : Tmp} {ty : TypeId} (h : fn.results = #[.cell p ty,.tmp u,.tmp x,.tmp y]) (tmps : Array Value) (P : Program) (w : World) :
 (results fn tmps).run P w =
   ((asAddr (tmps.getD p undef)).run P w).andThen fun a w₁=>((loadVar ty a).run P w₁).andThen fun v w₂ => .ok (.tuple #[v,tmps.getD u undef,tmps.getD x undef,tmps.getD y undef]) w₂:=by
 simp only [results,h];simp [Sem.run_bind,Result.andThen]
def E2o (t : TypeId) (vh : HeadN → Value) (w : World) (p : HeadN × List UInt8 × List UInt8 × Int) (e : Ending) (w' : World) : Prop :=
 ∃ v u,e=.returned (.tuple #[vh p.1,v,u,.int .i64 p.2.2.2])/\OwnBs t w' w.heap.size v p.2.1/\OwnBs t w' w.heap.size u p.2.2.1/\Below w.heap.size w w'
theorem B9c : KeyOn (.int .u8) (fun n : Int => Value.int .u8 n) where
 same a b:=by simp [Instr.sameNow,Bool.beq_eq_decide_eq]
 bits a:=by simp [Instr.sameBits]
 check w a h:=by rw [A0t];unfold Instr.checkKey;simp [run_underlying h,Result.andThen]
 checkE w a h:=by rw [A0t];unfold Instr.checkKey;simp [run_underlying h,Result.andThen]
theorem D9h (c : UInt8) : (c = 48 ∧ A9o c = 1) ∨ (c = 53 ∧ A9o c = 2) ∨ (c = 50 ∧ A9o c = 3) ∨ (c = 49 ∧ A9o c = 4) ∨ ((c.toNat : Int) ≠ 48 ∧ (c.toNat : Int) ≠ 53 ∧ (c.toNat : Int) ≠ 50 ∧ (c.toNat : Int) ≠ 49 ∧ A9o c = 0) := by
 have hn:∀ k:UInt8,c≠k->(c.toNat:Int)≠(k.toNat:Int):=fun k h e=>h (UInt8.toNat_inj.1 (by exact_mod_cast e))
 unfold A9o;by_cases h0:c=48
 ·left;exact ⟨h0,if_pos h0⟩
 ·by_cases h1:c=53
  ·right;left;exact ⟨h1,by rw [if_neg h0,if_pos h1]⟩
  ·by_cases h2:c=50
   ·right;right;left;exact ⟨h2,by rw [if_neg h0,if_neg h1,if_pos h2]⟩
   ·by_cases h3:c=49
    ·right;right;right;left;exact ⟨h3,by rw [if_neg h0,if_neg h1,if_neg h2,if_pos h3]⟩
    ·right;right;right;right;exact ⟨hn 48 h0,hn 53 h1,hn 50 h2,hn 49 h3,by rw [if_neg h0,if_neg h1,if_neg h2,if_neg h3]⟩
def F0e : List (Int × Value) := [(48,.int .i64 1),(53,.int .i64 2),(50,.int .i64 3),(49,.int .i64 4)]
theorem F9d {P : Program} {t k e : TypeId} (ht : P.underlying t = some (.map k e)) (hk : P.underlying k = some (.int .u8)) (hz : ∀ w : World,(zeroValue e).run P w = .ok (.int .i64 0) w) (c : UInt8) (W : World) :
 (Instr.lookup t (.map (some W.heap.size)) (.int .u8 (c.toNat:Int)) false).run P (W.alloc (.map #[⟨.int .u8 48,.int .i64 1,0⟩,⟨.int .u8 53,.int .i64 2,1⟩,⟨.int .u8 50,.int .i64 3,2⟩,⟨.int .u8 49,.int .i64 4,3⟩] 4)) =
   .ok (.int .i64 (A9o c)) (W.alloc (.map #[⟨.int .u8 48,.int .i64 1,0⟩,⟨.int .u8 53,.int .i64 2,1⟩,⟨.int .u8 50,.int .i64 3,2⟩,⟨.int .u8 49,.int .i64 4,3⟩] 4)):=by
 have h:A0i (fun n:Int=>Value.int .u8 n) (W.alloc (.map #[⟨.int .u8 48,.int .i64 1,0⟩,⟨.int .u8 53,.int .i64 2,1⟩,⟨.int .u8 50,.int .i64 3,2⟩,⟨.int .u8 49,.int .i64 4,3⟩] 4)) W.heap.size F0e:=⟨_,_,heap_alloc_new _ _,rfl⟩;rcases D9h c with ⟨hc,e0⟩|⟨hc,e0⟩|⟨hc,e0⟩|⟨hc,e0⟩|⟨h1,h2,h3,h4,e0⟩
 ·rw [e0,hc];exact h.look_some B9c ht hk (by rfl) false
 ·rw [e0,hc];exact h.look_some B9c ht hk (by rfl) false
 ·rw [e0,hc];exact h.look_some B9c ht hk (by rfl) false
 ·rw [e0,hc];exact h.look_some B9c ht hk (by rfl) false
 ·rw [e0];exact h.look_none B9c ht hk (a:=(c.toNat:Int)) (by simp [A2v,F0e,h1,h2,h3,h4]) (hz _) false
theorem E2b (l : List UInt8) : Lib.trimPrefix l [45] = A7c l ∧ Lib.hasPrefix l [45] = A6q l := by
 unfold Lib.trimPrefix Lib.hasPrefix A7c A6q;cases l with
 | nil=>exact ⟨rfl,rfl⟩
 | cons c l =>
   by_cases h:c=45
   ·subst h;simp [List.isPrefixOf]
   ·have h2:¬ (45:UInt8)=c:=fun e=>h e.symm
    simp [List.isPrefixOf,h,h2]
theorem D1i (l : List UInt8) : Lib.indexByte l 46 = if A4k l < l.length then (A4k l : Int) else -1 := by
 induction l with
 | nil=>rfl
 | cons b l ih =>
   unfold Lib.indexByte;by_cases h:b=46
   ·subst h;simp [A4k]
   ·have hd:A4k (b::l)=A4k l+1:=by simp [A4k,h]
    have hb:(b==46)=false:=by simpa using h
    rw [hb,ih,hd];simp only [Bool.false_eq_true,if_false];by_cases hl:A4k l<l.length
    ·have:(((A4k l:Nat):Int) == -1)=false:=by rw [beq_eq_false_iff_ne];omega
     rw [if_pos hl,this,if_pos (show A4k l+1<(b::l).length by simpa using hl)];simp
    ·rw [if_neg hl,if_neg (show ¬ A4k l+1<(b::l).length by simp;omega)];rfl
theorem A5t {s : ByteArray} {k : Nat} (h : k < s.size) : k < s.data.toList.length ∧ s.data.toList[k]? = some s[k] := by
 have h1:k<s.data.toList.length:=by simpa using h
 refine ⟨h1,?_⟩;rw [List.getElem?_eq_getElem h1];rfl
theorem D1o {l : List UInt8} {k : Nat} {c : UInt8} (h : l[k]? = some c) : l.take (k + 1) = l.take k ++ [c] := by
 rw [List.take_add_one,h];rfl
theorem C5a {c : UInt8} (h1 : 48 ≤ c.toNat) (h2 : c.toNat ≤ 57) : A7n c = true := by unfold A7n; simp [h1,h2]
theorem C6a {c : UInt8} (h : c.toNat < 48 ∨ 57 < c.toNat) : A7n c = false := by
 unfold A7n;rw [decide_eq_false_iff_not];omega
theorem B9p {l : List UInt8} {k : Nat} {c : UInt8} (h : l[k]? = some c) (ha : (l.take k).all A7n = true) (hc : A7n c = true) : (l.take (k + 1)).all A7n = true := by
 rw [D1o h,List.all_append,ha];simp [hc]
theorem C7b {l : List UInt8} {k : Nat} {c : UInt8} (h : l[k]? = some c) : A0g (l.take (k + 1)) = 10 * A0g (l.take k) + (c.toNat - 48) := by
 rw [D1o h,B4p]
theorem not_all {l : List UInt8} {k : Nat} {c : UInt8} (h : l[k]? = some c) (hc : A7n c = false) : l.all A7n = false := by
 rw [<-Bool.not_eq_true];intro ha;have:=List.all_eq_true.1 ha c (List.mem_of_getElem? h);rw [hc] at this;cases this
theorem B9g : ∀ (n : Nat) {l : List UInt8},l.length = n → l.all A7n = true → A0g l < 10 ^ n
 | 0,l,hn,_=>by
   obtain rfl:=List.eq_nil_of_length_eq_zero hn;decide
 | n+1,l,hn,h=>by
   rcases List.eq_nil_or_concat l with e|⟨l',c,e⟩
   ·rw [e] at hn;cases hn
   ·rw [List.concat_eq_append] at e;subst e;rw [List.all_append,Bool.and_eq_true] at h;have h1:=B9g n (l:=l') (by simpa using hn) h.1;have h2:A7n c=true:=by simpa using h.2
    unfold A7n at h2;have h3:=of_decide_eq_true h2;rw [B4p,Nat.pow_succ];omega
theorem E7e {l : List UInt8} {k m : Nat} (ha : (l.take k).all A7n = true) (hk : k ≤ l.length) (hm : k ≤ m) (h : k = m ∨ k = l.length ∨ ∃ c,l[k]? = some c ∧ A7n c = false) : A4q m l = k := by
 induction k generalizing l m with
 | zero =>
   cases m with
   | zero=>rfl
   | succ m =>
     cases l with
     | nil=>rfl
     | cons c l =>
       rcases h with h|h|⟨d,h1,h2⟩
       ·cases h
       ·simp at h
       ·simp at h1;subst h1;simp [A4q,h2]
 | succ k ih =>
   cases m with
   | zero=>omega
   | succ m =>
     cases l with
     | nil=>simp at hk
     | cons c l =>
       rw [List.take_succ_cons,List.all_cons,Bool.and_eq_true] at ha;rw [A4q,if_pos ha.1,ih ha.2 (by simpa using hk) (by omega) ?_];rcases h with h|h|h
       ·exact .inl (by omega)
       ·exact .inr (.inl (by simpa using h))
       ·exact .inr (.inr (by simpa using h))
end Go.Creel
namespace Go.Proofs.YtaffgndickdbiaaGreatDoor
open Go.Creel Go.RowKit
theorem E6h (v : Value) (b : List UInt8) (w : World) (h : A4a maxLen 1 A1e w [v] b) (hs : b.length < 512) :
 Calls Tryz.prog 50 #[v] w (E2o 5 HeadN.val' w (A4b b)):=by
 obtain ⟨a,cap,hv⟩:∃ a cap,v=.slice a b.length cap:=by
  obtain ⟨a,cap,hv,_⟩:=h;exact ⟨a,cap,by simpa using hv⟩
 subst hv;have HF:=Hi (B4d hs);have HBZ:=Hi ((Below.refl w.heap.size w).alloc lr (.cells #[.string ⟨#[]⟩,.string ⟨#[]⟩,.string ⟨#[]⟩,.int .i64 0,.int .i64 0,.int .i64 0,.int .i64 0,.int .i64 0,.int .u8 0,.string ⟨#[]⟩,.string ⟨#[]⟩] 62));clear h;go_enter Tryz.func50,Tryz.ntmps50;go_wp2
 (try simp only [Exit.inBlock,Exit.then])
 refine bodyPost_ret (v:=.tuple #[.agg #[.string ⟨#[]⟩,.string ⟨#[]⟩,.string ⟨#[]⟩,.int .i64 0,.int .i64 0,.int .i64 0,.int .i64 0,.int .i64 0,.int .u8 0,.string ⟨#[]⟩,.string ⟨#[]⟩],.slice none 0 0,.slice none 0 0,.int .i64 7]) (by rw [A8i rfl];go_simp) rfl ?_;rw [HF.out];exact ⟨_,_,rfl,OwnBs.nil _ _ _,OwnBs.nil _ _ _,HBZ.out⟩
theorem E9x (v : Value) (b : List UInt8) (w : World) (h : A4a maxLen 1 A1e w [v] b) (hs : ¬ b.length < 512) (hh : ¬ (A6g b).2 = 0) :
 Calls Tryz.prog 50 #[v] w (E2o 5 HeadN.val' w (A4b b)):=by
 obtain ⟨a,cap,hv,hcp⟩:=A0f h;subst hv;have hcm:cap<=maxLen:=by obtain ⟨_,_,hv,_,h2,_⟩:=h;simp only [List.cons.injEq,Value.slice.injEq,and_true] at hv;omega
 have hsl:∀ W:World,(Instr.slice 24 (.slice a b.length cap) none (some (.int .i64 512)) none).run Tryz.prog W=.ok (.slice a 512 cap) W:=fun W=>B9f W a b.length cap 512 (by omega) hcp
 have H:=Hi h;have hTK:=A2w (i:=512) h (by omega);have HBZ:=Hi ((Below.refl w.heap.size w).alloc lr (.cells #[.string ⟨#[]⟩,.string ⟨#[]⟩,.string ⟨#[]⟩,.int .i64 0,.int .i64 0,.int .i64 0,.int .i64 0,.int .i64 0,.int .u8 0,.string ⟨#[]⟩,.string ⟨#[]⟩] 62));have HRZ:Hid ((w.alloc (.cells #[.string ⟨#[]⟩,.string ⟨#[]⟩,.string ⟨#[]⟩,.int .i64 0,.int .i64 0,.int .i64 0,.int .i64 0,.int .i64 0,.int .u8 0,.string ⟨#[]⟩,.string ⟨#[]⟩] 62)).heap[w.heap.size]?=some (.cells #[.string ⟨#[]⟩,.string ⟨#[]⟩,.string ⟨#[]⟩,.int .i64 0,.int .i64 0,.int .i64 0,.int .i64 0,.int .i64 0,.int .u8 0,.string ⟨#[]⟩,.string ⟨#[]⟩] 62 (0,0))):=Hi (heap_alloc_new _ _);have hlen:(b.take 512).length=512:=by rw [List.length_take];omega
 have hTK2:A4a maxLen 1 A1e (w.alloc (.cells #[.string ⟨#[]⟩,.string ⟨#[]⟩,.string ⟨#[]⟩,.int .i64 0,.int .i64 0,.int .i64 0,.int .i64 0,.int .i64 0,.int .u8 0,.string ⟨#[]⟩,.string ⟨#[]⟩] 62)) [.slice a (b.take 512).length cap] (b.take 512):=by rw [hlen];exact hTK.below (fun _ _ h=>h) HBZ.out
 have hcv:=conv (w.alloc (.cells #[.string ⟨#[]⟩,.string ⟨#[]⟩,.string ⟨#[]⟩,.int .i64 0,.int .i64 0,.int .i64 0,.int .i64 0,.int .i64 0,.int .u8 0,.string ⟨#[]⟩,.string ⟨#[]⟩] 62)) hTK2
 rw [hlen] at hcv;have HHR:=Hi (fun W=>C7o (ofL (b.take 512)) W (by rw [A7a,hlen];decide));have HF:=Hi (B3i hs hh);have HP:Hid (A9q (ofL (b.take 512))=A6g b):=Hi rfl;rw [HP.out] at HHR;generalize A6g b=p at *;obtain ⟨hd,e0⟩:=p;simp only at hh HF HHR;have hq:(e0 != 0)=true:=by rw [bne_iff_ne];exact hh
 have hls:¬ ((b.length:Int)<512):=by omega
 clear h hTK hTK2 hh hs;go_enter Tryz.func50,Tryz.ntmps50;go_wp2_with fail
 refine (HHR.out _).mono ?_;rintro e w1 ⟨rfl,hb⟩;have HB1:=Hi (HBZ.out.trans (hb.mono HBZ.out.size));have HR1:=Hi ((hb.block _ (ltO HRZ.out)).trans HRZ.out);have hlr:=(ltO HR1.out);clear hb HRZ;obtain ⟨r0,r1,r2,r3,r4,r5,r6,r7,r8,r9,r10⟩:=A7g HR1.out;obtain ⟨f0,f1,f2,f3,f4,f5,f6,f7,f8,f9,f10⟩:=A4r HR1.out;go_upto_region 4 with fail
 have hne:w.heap.size≠w1.heap.size:=by omega
 go_wp2
 (try simp only [Exit.inBlock,Exit.then])
 refine bodyPost_ret (v:=.tuple #[.agg #[.string ⟨#[]⟩,.string ⟨#[]⟩,.string ⟨#[]⟩,.int .i64 0,.int .i64 0,.int .i64 0,.int .i64 0,.int .i64 0,.int .u8 0,.string ⟨#[]⟩,.string ⟨#[]⟩],.slice none 0 0,.slice none 0 0,.int .i64 e0]) (by rw [A8i rfl];go_simp) rfl ?_;rw [HF.out];have X:=Hi ((((((((((((HB1.out.setCell (p:=⟨w.heap.size,0,none⟩) lr (.string ⟨#[]⟩)).setCell (p:=⟨w.heap.size,1,none⟩) lr (.string ⟨#[]⟩)).setCell (p:=⟨w.heap.size,2,none⟩) lr (.string ⟨#[]⟩)).setCell (p:=⟨w.heap.size,3,none⟩) lr (.int .i64 0)).setCell (p:=⟨w.heap.size,4,none⟩) lr (.int .i64 0)).setCell (p:=⟨w.heap.size,5,none⟩) lr (.int .i64 0)).setCell (p:=⟨w.heap.size,6,none⟩) lr (.int .i64 0)).setCell (p:=⟨w.heap.size,7,none⟩) lr (.int .i64 0)).setCell (p:=⟨w.heap.size,8,none⟩) lr (.int .u8 0)).setCell (p:=⟨w.heap.size,9,none⟩) lr (.string ⟨#[]⟩)).setCell (p:=⟨w.heap.size,10,none⟩) lr (.string ⟨#[]⟩)));exact ⟨_,_,rfl,OwnBs.nil _ _ _,OwnBs.nil _ _ _,X.out.alloc X.out.size _⟩
theorem F1v (v : Value) (b : List UInt8) (w : World) (h : A4a maxLen 1 A1e w [v] b) (hbl : b.length ≤ 1048576) (hs : ¬ b.length < 512) (hh : (A6g b).2 = 0) :
 Calls Tryz.prog 50 #[v] w (E2o 5 HeadN.val' w (A4b b)):=by
 obtain ⟨a,cap,hv,hcp⟩:=A0f h;subst hv;have hcm:cap<=maxLen:=by obtain ⟨_,_,hv,_,h2,_⟩:=h;simp only [List.cons.injEq,Value.slice.injEq,and_true] at hv;omega
 have hsl:∀ W:World,(Instr.slice 24 (.slice a b.length cap) none (some (.int .i64 512)) none).run Tryz.prog W=.ok (.slice a 512 cap) W:=fun W=>B9f W a b.length cap 512 (by omega) hcp
 have H:=Hi h;have hTK:=A2w (i:=512) h (by omega);have HBZ:=Hi ((Below.refl w.heap.size w).alloc lr (.cells #[.string ⟨#[]⟩,.string ⟨#[]⟩,.string ⟨#[]⟩,.int .i64 0,.int .i64 0,.int .i64 0,.int .i64 0,.int .i64 0,.int .u8 0,.string ⟨#[]⟩,.string ⟨#[]⟩] 62));have HRZ:Hid ((w.alloc (.cells #[.string ⟨#[]⟩,.string ⟨#[]⟩,.string ⟨#[]⟩,.int .i64 0,.int .i64 0,.int .i64 0,.int .i64 0,.int .i64 0,.int .u8 0,.string ⟨#[]⟩,.string ⟨#[]⟩] 62)).heap[w.heap.size]?=some (.cells #[.string ⟨#[]⟩,.string ⟨#[]⟩,.string ⟨#[]⟩,.int .i64 0,.int .i64 0,.int .i64 0,.int .i64 0,.int .i64 0,.int .u8 0,.string ⟨#[]⟩,.string ⟨#[]⟩] 62 (0,0))):=Hi (heap_alloc_new _ _);have hlen:(b.take 512).length=512:=by rw [List.length_take];omega
 have hTK2:A4a maxLen 1 A1e (w.alloc (.cells #[.string ⟨#[]⟩,.string ⟨#[]⟩,.string ⟨#[]⟩,.int .i64 0,.int .i64 0,.int .i64 0,.int .i64 0,.int .i64 0,.int .u8 0,.string ⟨#[]⟩,.string ⟨#[]⟩] 62)) [.slice a (b.take 512).length cap] (b.take 512):=by rw [hlen];exact hTK.below (fun _ _ h=>h) HBZ.out
 have hcv:=conv (w.alloc (.cells #[.string ⟨#[]⟩,.string ⟨#[]⟩,.string ⟨#[]⟩,.int .i64 0,.int .i64 0,.int .i64 0,.int .i64 0,.int .i64 0,.int .u8 0,.string ⟨#[]⟩,.string ⟨#[]⟩] 62)) hTK2
 rw [hlen] at hcv;have HHR:=Hi (fun W=>C7o (ofL (b.take 512)) W (by rw [A7a,hlen];decide));have HF:=Hi (B6p hs hh);have HP:Hid (A9q (ofL (b.take 512))=A6g b):=Hi rfl;have hsz:=C8n b;have hs2:∀ W:World,(Instr.slice 24 (.slice a b.length cap) (some (.int .i64 512)) none none).run Tryz.prog W=.ok (sliced a 512 b.length cap 1) W:=fun W=>B5a W a b.length cap 512 (by omega) hcp
 have HDR:=Hi (A0p (i:=512) h (by omega));have hdl:(b.drop 512).length<=1048576:=by rw [List.length_drop];omega
 have HPC0:=Hi (fun v W h=>E5g (N:=maxLen) v (b.drop 512) (A6g b).1.size W (by unfold i64;omega) h hdl);rw [HP.out] at HHR;generalize sliced a 512 b.length cap 1=sl at *;generalize A6g b=p at *;obtain ⟨hd,e0⟩:=p;simp only at hh HF HHR hsz HPC0;subst hh;generalize A7f (b.drop 512) hd.size=pc at *;obtain ⟨p1,p2,p3⟩:=pc;have hls:¬ ((b.length:Int)<512):=by omega
 clear h hTK hTK2 hs;go_enter Tryz.func50,Tryz.ntmps50;go_wp2_with fail
 refine (HHR.out _).mono ?_;rintro e w1 ⟨rfl,hb⟩;have HB1:=Hi (HBZ.out.trans (hb.mono HBZ.out.size));have HR1:=Hi ((hb.block _ (ltO HRZ.out)).trans HRZ.out);have hlr:=(ltO HR1.out);clear hb HRZ;go_upto_region 6 with fail
 have HA:=Hi ((Below.refl w1.heap.size w1).alloc lr (.cells #[.string hd.nm,.string hd.px,.string hd.lk,.int .i64 hd.mode,.int .i64 hd.uid,.int .i64 hd.gid,.int .i64 hd.size,.int .i64 hd.time,.int .u8 hd.typ.toNat,.string hd.user,.string hd.group] 62));have HB2:=Hi (HB1.out.trans (HA.out.mono HB1.out.size));have HD2:Hid ((w1.alloc (.cells #[.string hd.nm,.string hd.px,.string hd.lk,.int .i64 hd.mode,.int .i64 hd.uid,.int .i64 hd.gid,.int .i64 hd.size,.int .i64 hd.time,.int .u8 hd.typ.toNat,.string hd.user,.string hd.group] 62)).heap[w1.heap.size]?=some (.cells #[.string hd.nm,.string hd.px,.string hd.lk,.int .i64 hd.mode,.int .i64 hd.uid,.int .i64 hd.gid,.int .i64 hd.size,.int .i64 hd.time,.int .u8 hd.typ.toNat,.string hd.user,.string hd.group] 62 (0,0))):=Hi (heap_alloc_new _ _);have HR2:=Hi ((HA.out.block _ hlr).trans HR1.out);have hne:w.heap.size≠w1.heap.size:=by omega
 generalize w1.heap.size=bh at *;generalize w1.alloc (.cells #[.string hd.nm,.string hd.px,.string hd.lk,.int .i64 hd.mode,.int .i64 hd.uid,.int .i64 hd.gid,.int .i64 hd.size,.int .i64 hd.time,.int .u8 hd.typ.toNat,.string hd.user,.string hd.group] 62)=w2 at *;clear HA HB1 HR1 hlr;have hbh:=(ltO HD2.out);have hc6:w2.cell? ⟨bh,6,none⟩=some (.int .i64 hd.size):=cellAt HD2.out rfl
 have HPC:=Hi (fun W (hB:Below w2.heap.size w2 W)=>show Calls Tryz.prog 118 #[sl,.int .i64 hd.size] W (fun e w'=>∃ v1 v2,e=.returned (.tuple #[v1,v2,.int .i64 p3])/\Hid (OwnBs 5 w' w2.heap.size v1 p1)/\Hid (OwnBs 5 w' w2.heap.size v2 p2)/\w'.cell? ⟨bh,6,none⟩=some (.int .i64 hd.size)/\Below w2.heap.size w2 w') from
  (HPC0.out sl W (HDR.out.below (fun _ _ h=>h) (HB2.out.trans (hB.mono HB2.out.size)))).mono fun e w' hx=>by
    obtain ⟨v1,v2,h1,h2,h3,h4⟩:=hx;have hb2:=hB.trans (h4.mono hB.size);exact ⟨v1,v2,h1,Hi (h2.mono hB.size),Hi (h3.mono hB.size),cellAt ((hb2.block bh hbh).trans HD2.out) rfl,hb2⟩)
 have hdrw:=(Below.refl w2.heap.size w2).drew;go_cut [7,8,9] from 25 to 33 (fun u7 u8 u9 wy=>u7=.int .i64 p3/\Hid (OwnBs 5 wy w2.heap.size u8 p1)/\Hid (OwnBs 5 wy w2.heap.size u9 p2)/\Hid (Below w2.heap.size w2 wy))
 case first =>
  go_region_held3 (fun w'=>w'.cell? ⟨bh,6,none⟩=some (.int .i64 hd.size)/\Below w2.heap.size w2 w') (go_keep)
   (first|(go_at_call 118;refine (HPC.out _ ?_).mono ?_;(simp [*]);rintro e w3 ⟨v1,v2,rfl,ho1,ho2,r6,hb3⟩))
  go_wp2_with fail
  go_meet
  case rel=>exact ⟨rfl,ho1,ho2,Hi hb3⟩
 case rest =>
 obtain ⟨rfl,HO1,HO2,HB3⟩:=hcut;obtain ⟨w3,rfl⟩:∃ W:World,W=wc:=⟨_,rfl⟩;have HD3:=Hi ((HB3.out.block _ hbh).trans HD2.out);have HR3:=Hi ((HB3.out.block _ (ltO HR2.out)).trans HR2.out);have HBW:=Hi (HB2.out.trans (HB3.out.mono HB2.out.size));have hrl:w.heap.size<w2.heap.size:=(ltO HR2.out);clear HPC HPC0 HR2 HD2 hc6 hdrw HDR;obtain ⟨r0,r1,r2,r3,r4,r5,r6,r7,r8,r9,r10⟩:=A7g HR3.out;obtain ⟨f0,f1,f2,f3,f4,f5,f6,f7,f8,f9,f10⟩:=A4r HR3.out;obtain ⟨c0,c1,c2,c3,c4,c5,c6,c7,c8,c9,c10⟩:=A7g HD3.out;have hne2:bh≠w.heap.size:=fun e=>hne e.symm
 go_wp2
 (try simp only [Exit.inBlock,Exit.then])
 obtain ⟨x1,rfl⟩:∃ V:Value,V=u8:=⟨_,rfl⟩;obtain ⟨x2,rfl⟩:∃ V:Value,V=u9:=⟨_,rfl⟩;refine bodyPost_ret (v:=.tuple #[HeadN.val' hd,x1,x2,.int .i64 p3]) (by rw [A8i rfl];go_simp) rfl ?_;rw [HF.out];have hn1:x1.ownBlock≠some w.heap.size:=fun e=>by have:=(World.ownsRow.lt HO1.out _ e).1;omega
 have hn2:x2.ownBlock≠some w.heap.size:=fun e=>by have:=(World.ownsRow.lt HO2.out _ e).1;omega
 exact ⟨x1,x2,rfl,(A3a (j:=10) _ (A3a (j:=9) _ (A3a (j:=8) _ (A3a (j:=7) _ (A3a (j:=6) _ (A3a (j:=5) _ (A3a (j:=4) _ (A3a (j:=3) _ (A3a (j:=2) _ (A3a (j:=1) _ (A3a (j:=0) _ (HO1.out.mono (Nat.le_of_lt hrl)) hn1) hn1) hn1) hn1) hn1) hn1) hn1) hn1) hn1) hn1) hn1),(A3a (j:=10) _ (A3a (j:=9) _ (A3a (j:=8) _ (A3a (j:=7) _ (A3a (j:=6) _ (A3a (j:=5) _ (A3a (j:=4) _ (A3a (j:=3) _ (A3a (j:=2) _ (A3a (j:=1) _ (A3a (j:=0) _ (HO2.out.mono (Nat.le_of_lt hrl)) hn2) hn2) hn2) hn2) hn2) hn2) hn2) hn2) hn2) hn2) hn2),(((((((((((HBW.out.setCell (p:=⟨w.heap.size,0,none⟩) lr (.string hd.nm)).setCell (p:=⟨w.heap.size,1,none⟩) lr (.string hd.px)).setCell (p:=⟨w.heap.size,2,none⟩) lr (.string hd.lk)).setCell (p:=⟨w.heap.size,3,none⟩) lr (.int .i64 hd.mode)).setCell (p:=⟨w.heap.size,4,none⟩) lr (.int .i64 hd.uid)).setCell (p:=⟨w.heap.size,5,none⟩) lr (.int .i64 hd.gid)).setCell (p:=⟨w.heap.size,6,none⟩) lr (.int .i64 hd.size)).setCell (p:=⟨w.heap.size,7,none⟩) lr (.int .i64 hd.time)).setCell (p:=⟨w.heap.size,8,none⟩) lr (.int .u8 hd.typ.toNat)).setCell (p:=⟨w.heap.size,9,none⟩) lr (.string hd.user)).setCell (p:=⟨w.heap.size,10,none⟩) lr (.string hd.group))⟩
theorem B0n (v : Value) (b : List UInt8) (w : World) (h : A4a maxLen 1 A1e w [v] b) (hbl : b.length ≤ 1048576) :
 Calls Tryz.prog 50 #[v] w (E2o 5 HeadN.val' w (A4b b)):=by
 by_cases hs:b.length<512
 ·exact E6h v b w h hs
 ·by_cases hh:(A6g b).2=0
  ·exact F1v v b w h hbl hs hh
  ·exact E9x v b w h hs hh
theorem E6x (l : List UInt8) (w : World) :
 Calls Tryz.prog 174 #[.string (ofL l),.string ⟨#[45]⟩] w fun e w'=>e=.returned (.tuple #[.string (ofL (A7c l)),.bool (A6q l)])/\w=w':=by
 refine (Tryz.strings_CutPrefix (ofL l) ⟨#[45]⟩ w).mono ?_;rintro e w' ⟨rfl,rfl⟩;refine ⟨?_,rfl⟩;rw [A0d];obtain ⟨h1,h2⟩:=E2b l;show Ending.returned (Value.tuple #[.string (ofL (Lib.trimPrefix l [45])),.bool (Lib.hasPrefix l [45])])=_
 rw [h1,h2]
theorem D8x (l : List UInt8) (w : World) :
 Calls Tryz.prog 229 #[.string (ofL l),.string ⟨#[46]⟩] w fun e w'=>e=.returned (.int .i64 (if A4k l<l.length then (A4k l:Int) else -1))/\w=w':=by
 refine (Any.stringslite_Index_one { Tryz.lays143 with } (ofL l) 46 w).mono ?_;rintro e w' ⟨rfl,rfl⟩;rw [A0d,D1i];exact ⟨rfl,rfl⟩
theorem F0i (l : List UInt8) (w : World) (hl : l.length ≤ maxLen) :
 Calls Tryz.prog 210 #[.string (ofL l),.string ⟨#[46]⟩] w fun e w'=>(if A4k l<l.length then e=.returned (.tuple #[.string (ofL (l.take (A4k l))),.string (ofL (l.drop (A4k l+1))),.bool true]) else e=.returned (.tuple #[.string (ofL l),.string ByteArray.empty,.bool false]))/\∃ n,w'=w.drewN n:=by
 have hI:=D8x l w;unfold maxLen at hl;by_cases h:A4k l<l.length
 ·rw [if_pos h] at hI;have hsz:(ofL l).size=l.length:=A7a l;have HE1:=Hi (show (ofL l).extract 0 (A4k l)=ofL (l.take (A4k l)) by rw [C1a,List.drop_zero,Nat.sub_zero]);have HE2:=Hi (show (ofL l).extract (A4k l+1) (ofL l).size=ofL (l.drop (A4k l+1)) by rw [C1a,hsz,List.take_of_length_le (by rw [List.length_drop];omega)]);generalize ofL l=s at *;generalize ofL (l.take (A4k l))=s1 at *;generalize ofL (l.drop (A4k l+1))=s2 at *;simp only [if_pos h];have HI:=Hi hI;have hd:A4k l<s.size:=by omega
  have hsl:s.size<=9223372036854775807:=by omega
  generalize A4k l=d at *;clear hI h hsz hl;go_enter Tryz.func210,Tryz.ntmps210;go_wp2_with fail
  refine HI.out.mono ?_;rintro e w' ⟨rfl,rfl⟩;go_wp2_with fail
  go_quiet (fail)
  go_wp2
  go_ret3
  refine ⟨?_,_,rfl⟩;rw [<-HE1.out,<-HE2.out];rfl
 ·rw [if_neg h] at hI;simp only [if_neg h];have HI:=Hi hI;generalize ofL l=s at *;clear hI h hl;go_enter Tryz.func210,Tryz.ntmps210;go_wp2_with fail
  refine HI.out.mono ?_;rintro e w' ⟨rfl,rfl⟩;go_wp2
  go_ret3
  exact ⟨rfl,0,rfl⟩
theorem Cut_any (l : List UInt8) (w : World) (hl : l.length ≤ maxLen) :
 Calls Tryz.prog 173 #[.string (ofL l),.string ⟨#[46]⟩] w fun e w'=>(if A4k l<l.length then e=.returned (.tuple #[.string (ofL (l.take (A4k l))),.string (ofL (l.drop (A4k l+1))),.bool true]) else e=.returned (.tuple #[.string (ofL l),.string ByteArray.empty,.bool false]))/\∃ n,w'=w.drewN n:=by
 have hI:=F0i l w hl;by_cases h:A4k l<l.length
 ·simp only [if_pos h] at hI ⊢;have HI:=Hi hI;generalize ofL l=s at *;generalize ofL (l.take (A4k l))=s1 at *;generalize ofL (l.drop (A4k l+1))=s2 at *;clear hI h hl;go_enter Tryz.func173,Tryz.ntmps173;go_wp2_with fail
  refine HI.out.mono ?_;rintro e w' ⟨rfl,n,rfl⟩;go_wp2
  go_ret3
  exact ⟨rfl,_,rfl⟩
 ·simp only [if_neg h] at hI ⊢;have HI:=Hi hI;generalize ofL l=s at *;clear hI h hl;go_enter Tryz.func173,Tryz.ntmps173;go_wp2_with fail
  refine HI.out.mono ?_;rintro e w' ⟨rfl,n,rfl⟩;go_wp2
  go_ret3
  exact ⟨rfl,_,rfl⟩
theorem C7k (s : ByteArray) (most : Nat) (w : World) (hs : s.size ≤ maxLen) (hm : most ≤ 13) :
 Calls Tryz.prog 175 #[.string s,.int .i64 most] w fun e w'=>e=.returned (.tuple #[.int .i64 ((A2i s.data.toList most).1:Int),.bool (A2i s.data.toList most).2])/\w=w':=by
 have hsz:s.data.toList.length=s.size:=by simp
 unfold maxLen at hs;by_cases h1:s.size<1
 ·have HF:=Hi (show A2i s.data.toList most=(0,false) by unfold A2i;rw [if_pos (.inl (by omega))]);have h2:s.size=0:=by omega
  clear hsz h1;go_enter Tryz.func175,Tryz.ntmps175;go_wp2;go_ret2;exact ⟨by rw [HF.out];rfl,rfl⟩
 by_cases h2:most<s.size
 ·have HF:=Hi (show A2i s.data.toList most=(0,false) by unfold A2i;rw [if_pos (.inr (by omega))]);clear hsz;go_enter Tryz.func175,Tryz.ntmps175;go_wp2;go_ret2;exact ⟨by rw [HF.out];rfl,rfl⟩
 ·have HF:=Hi (show A2i s.data.toList most=if s.data.toList.all A7n=true then (A0g s.data.toList,true) else (0,false) by unfold A2i;rw [if_neg (by omega)]);have HSZ:=Hi hsz;clear hsz;go_enter Tryz.func175,Tryz.ntmps175;go_wp2
  go_loop [6,7,19] (fun n _ i=>∃ k:Nat,k<=s.size/\i=.int .i64 k/\n=.int .i64 (A0g (s.data.toList.take k):Int)/\Hid ((s.data.toList.take k).all A7n=true)) (fun _ _ i=>s.size-(intOf i).toNat)
  case atStart=>exact ⟨0,by omega,rfl,rfl,Hi rfl⟩
  case round =>
   obtain ⟨k,hk,rfl,rfl,HA⟩:=hrel;by_cases hlt:k<s.size
   ·obtain ⟨hl1,hl2⟩:=A5t hlt;have hv:=B9g k (by rw [List.length_take];omega) HA.out;have hv2:A0g (s.data.toList.take k)<10000000000000:=Nat.lt_of_lt_of_le hv (Nat.le_trans (Nat.pow_le_pow_right (by decide) (show k<=13 by omega)) (by decide));have HVN:=Hi (C7b hl2);have HAN:=Hi (B9p hl2 HA.out);have HNA:=Hi (not_all hl2);have hb':s[k].toNat<256:=UInt8.toNat_lt _;have HDT:=Hi (C5a (c:=s[k]));have HDF:=Hi (C6a (c:=s[k]));clear hv hl2;generalize A0g (s.data.toList.take k)=n at *;by_cases hd1:s[k].toNat<48
    ·have HFF:=Hi (HF.out.trans (if_neg (by rw [HNA.out (HDF.out (.inl hd1))];simp)));clear HVN HAN;go_wp2;go_ret2;exact ⟨by rw [HFF.out];rfl,rfl⟩
    ·by_cases hd2:57<s[k].toNat
     ·have HFF:=Hi (HF.out.trans (if_neg (by rw [HNA.out (HDF.out (.inr hd2))];simp)));clear HVN HAN;go_wp2;go_ret2;exact ⟨by rw [HFF.out];rfl,rfl⟩
     ·have HAN2:=Hi (HAN.out (HDT.out (by omega) (by omega)));clear HAN;go_wp2
      go_round
      case rel=>exact ⟨k+1,by omega,by go_num,by rw [HVN.out];congr 1;omega,HAN2⟩
      case measure=>simp [intOf];omega
   ·obtain rfl:k=s.size:=by omega
    have HT:=Hi (show s.data.toList.take s.size=s.data.toList from List.take_of_length_le (by rw [HSZ.out];exact Nat.le_refl _));have HFF:=Hi (HF.out.trans (if_pos (by have:=HA.out;rw [HT.out] at this;exact this)));go_wp2;go_ret2;exact ⟨by rw [HFF.out,HT.out];rfl,rfl⟩
end Go.Proofs.YtaffgndickdbiaaGreatDoor
