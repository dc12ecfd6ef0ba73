/- A part of the proof. -/
import Derived.Test.YtaffgndickdbiaaGreatDoorV19
set_option linter.unusedVariables false
set_option linter.unusedSimpArgs false
set_option linter.unusedSectionVars false
set_option maxRecDepth 100000
set_option maxHeartbeats 400000
namespace Go.Creel
open Go.RowKit
theorem F2g {N : Nat} {w : World} {a : Option Addr} {n cap i j : Nat} {l : List UInt8} (h : A4a N 1 A1e w [.slice a n cap] l) (hi : i ≤ j) (hj : j ≤ l.length) : A4a N 1 A1e w [sliced a i j cap 1] ((l.drop i).take (j - i)) :=
 A2w (A0p h (Nat.le_trans hi hj)) (by rw [List.length_drop];omega)
abbrev C6b (n : Nat) : List UInt8 := List.replicate n 0
theorem B4y (l : List Ent) (k : Nat) : ek (l.map Ent.bare) k = (ek l k).bare := by
 unfold ek;rw [List.getD_eq_getElem?_getD,List.getElem?_map,List.getD_eq_getElem?_getD];cases l[k]?<;>rfl
theorem C9a (s : ByteArray) : ∀ l : List Ent,A4c (l.map Ent.bare) s = A4c l s
 | []=>rfl
 | x::t=>by
   simp only [List.map_cons,A4c,C9a s t];rfl
theorem D0c (l : List Ent) (k : Nat) (s : ByteArray) : A8m (l.map Ent.bare) k s = (A8m l k s).bare := by
 unfold A8m;rw [<-List.map_take,C9a,B4y];split<;>rfl
open Classical in
theorem E4z (l : List Ent) (i : Nat) : A3t (l.map Ent.bare) i = A3t l i := by
 have h0:A1b (ek (l.map Ent.bare) i)=A1b (ek l i):=by rw [B4y];rfl
 have h1:B6i (l.map Ent.bare) i↔B6i l i:=by unfold B6i;rw [B4y,B4y];exact Iff.rfl
 have h2:C1b (l.map Ent.bare) i↔C1b l i:=by unfold C1b;rw [B4y,D0c];exact Iff.rfl
 have h3:A4y (l.map Ent.bare) i↔A4y l i:=by unfold A4y;rw [B4y,D0c];exact Iff.rfl
 unfold A3t;rw [h0];exact ite_congr rfl (fun _=>rfl) (fun _=>ite_congr (propext (not_congr h1)) (fun _=>rfl) (fun _=>ite_congr (propext (not_congr h2)) (fun _=>rfl) (fun _=>ite_congr (propext (not_congr h3)) (fun _=>rfl) (fun _=>rfl))))
theorem A9x (l : List Ent) : A0b (l.map Ent.bare) = A0b l := by
 have h:A3t (l.map Ent.bare)=A3t l:=funext (E4z l);unfold A0b;rw [List.length_map,h]
theorem B2y {l m : List Ent} (h : l.map Ent.bare = m.map Ent.bare) : A0b l = A0b m := by
 rw [<-A9x l,<-A9x m,h]
theorem D2c {b : List UInt8} {n : Nat} {h : HeadN} {l : List Rec} {d : List UInt8} (he : (B3g b n h l d).2.2 = 0) : (B3g b n h l d).2.1 = (n : Int) := by
 unfold B3g at he ⊢;split at he
 ·rename_i h1;rw [if_pos h1]
 ·cases he
theorem C4u {b : List UInt8} (he : (A6s b).2.2 = 0) : ∃ n : Nat,(A6s b).2.1 = (n : Int) ∧ 512 ≤ n ∧ n ≤ b.length := by
 obtain ⟨⟨h1,d1,r1,e1⟩,hk⟩:∃ q,A4b b=q:=⟨_,rfl⟩;by_cases h0:e1=0
 ·subst h0;have hf:=B4b hk;by_cases ht:h1.typ=120
  ·obtain ⟨⟨l,e2⟩,hp⟩:∃ q,A2r (ofL d1)=q:=⟨_,rfl⟩;by_cases he2:e2=0
   ·subst he2;obtain ⟨⟨h2,d2,r2,e3⟩,hk2⟩:∃ q,A4b r1=q:=⟨_,rfl⟩;by_cases he3:e3=0
    ·subst he3;have hf2:=B4b hk2;rw [C5u hk ht hp hk2] at he ⊢;exact ⟨_,D2c he,by omega,by omega⟩
    ·rw [C4i hk ht hp hk2 he3] at he;exact absurd he he3
   ·rw [C5i hk ht hp he2] at he;exact absurd he he2
  ·rw [C2a hk ht] at he ⊢;exact ⟨_,D2c he,by omega,by omega⟩
 ·rw [C6i hk h0] at he;exact absurd he h0
open Classical in
noncomputable def B4a (b : List UInt8) : Nat → Nat → List Ent → List Ent × Nat × Int
 | 0,k,acc=>(acc,k,7)
 | f+1,k,acc =>
   if (b.drop k).length<512 then (acc,k,7)
   else if (b.drop k).take 512=C6b 512 then (acc,k,0)
   else if ¬ (A6s (b.drop k)).2.2=0 then (acc,k,(A6s (b.drop k)).2.2)
   else B4a b f (k+(A6s (b.drop k)).2.1.toNat) (acc++[(A6s (b.drop k)).1])
noncomputable def A6v (b : List UInt8) : List Ent × Nat × Int := B4a b (b.length + 1) 0 []
section
variable {b : List UInt8} {f k : Nat} {acc : List Ent}
theorem C5m (h : (b.drop k).length < 512) : B4a b (f + 1) k acc = (acc,k,7) := by
 unfold B4a;rw [if_pos h]
theorem C6r (h : ¬ (b.drop k).length < 512) (h2 : (b.drop k).take 512 = C6b 512) : B4a b (f + 1) k acc = (acc,k,0) := by
 unfold B4a;rw [if_neg h,if_pos h2]
theorem D3a (h : ¬ (b.drop k).length < 512) (h2 : ¬ (b.drop k).take 512 = C6b 512) {x : Ent} {n e : Int} (h3 : A6s (b.drop k) = (x,n,e)) (he : ¬ e = 0) : B4a b (f + 1) k acc = (acc,k,e) := by
 unfold B4a;rw [if_neg h,if_neg h2,h3];simp only;rw [if_pos he]
theorem C7r (h : ¬ (b.drop k).length < 512) (h2 : ¬ (b.drop k).take 512 = C6b 512) {x : Ent} {n : Nat} (h3 : A6s (b.drop k) = (x,(n : Int),0)) : B4a b (f + 1) k acc = B4a b f (k + n) (acc ++ [x]) := by
 conv=>lhs;unfold B4a
 rw [if_neg h,if_neg h2,h3];simp only;rw [if_neg (by simp),Int.toNat_natCast]
end
theorem D7o (b : List UInt8) : ∀ (f k : Nat) (acc : List Ent),k ≤ b.length → (B4a b f k acc).2.1 ≤ b.length
 | 0,k,acc,h=>h
 | f+1,k,acc,h=>by
   unfold B4a;split
   ·exact h
   ·split
    ·exact h
    ·split
     ·exact h
     ·rename_i h3
      obtain ⟨n,hn,_,hle⟩:=C4u (Classical.not_not.1 h3);rw [hn,Int.toNat_natCast];rw [List.length_drop] at hle;exact D7o b f _ _ (by omega)
theorem D6o (b : List UInt8) : (A6v b).2.1 ≤ b.length := D7o b _ 0 [] (Nat.zero_le _)
open Classical in
noncomputable def B3j (b : List UInt8) : List Ent × Int :=
 if ¬ (A6v b).2.2=0 then ([],(A6v b).2.2)
 else if ¬ b.drop (A6v b).2.1=C6b 1024 then ([],3)
 else if ¬ A0b (A6v b).1=0 then ([],A0b (A6v b).1)
 else ((A6v b).1,0)
section
variable {b : List UInt8} {l : List Ent} {k : Nat} {e : Int}
theorem D0w (h : A6v b = (l,k,e)) (he : ¬ e = 0) : B3j b = ([],e) := by unfold B3j; rw [h]; simp only; rw [if_pos he]
theorem D1e (h : A6v b = (l,k,0)) (h2 : ¬ b.drop k = C6b 1024) : B3j b = ([],3) := by unfold B3j; rw [h]; simp only; rw [if_neg (by simp),if_pos h2]
theorem C3x (h : A6v b = (l,k,0)) (h2 : b.drop k = C6b 1024) (h3 : ¬ A0b l = 0) : B3j b = ([],A0b l) := by unfold B3j; rw [h]; simp only; rw [if_neg (by simp),if_neg (by simpa using h2),if_pos h3]
theorem E7n (h : A6v b = (l,k,0)) (h2 : b.drop k = C6b 1024) (h3 : A0b l = 0) : B3j b = (l,0) := by unfold B3j; rw [h]; simp only; rw [if_neg (by simp),if_neg (by simpa using h2),if_neg (by simpa using h3)]
end
def F3i (t : TypeId) (w : World) (p : List Ent × Nat × Int) (e : Ending) (w' : World) : Prop := ∃ v l',e = .returned (.tuple #[v,.int .i64 (p.2.1 : Int),.int .i64 p.2.2]) ∧ A9g t w' w.heap.size v l' ∧ l'.map Ent.bare = p.1.map Ent.bare ∧ l'.length ≤ 2048 ∧ (∀ x ∈ l',∀ p,x.da = some p → w.heap.size ≤ p.block) ∧ Below w.heap.size w w'
def F2w (t : TypeId) (w : World) (p : List Ent × Int) (e : Ending) (w' : World) : Prop := ∃ v l',e = .returned (.tuple #[v,.int .i64 p.2]) ∧ A9g t w' w.heap.size v l' ∧ l'.map Ent.bare = p.1.map Ent.bare ∧ (∀ x ∈ l',∀ p,x.da = some p → w.heap.size ≤ p.block) ∧ Below w.heap.size w w'
def C8o (t : TypeId) (w : World) (b : Nat) (r : ByteArray) (e : Int) : Prop := w.heap[b]? = some (.cells #[.string r,.int .i64 e] t (0,0))
theorem C8o.c0 {t : TypeId} {w : World} {b : Nat} {r : ByteArray} {e : Int} (h : C8o t w b r e) : w.cell? ⟨b,0,none⟩ = some (.string r) := cellAt h rfl
theorem C8o.c1 {t : TypeId} {w : World} {b : Nat} {r : ByteArray} {e : Int} (h : C8o t w b r e) : w.cell? ⟨b,1,none⟩ = some (.int .i64 e) := cellAt h rfl
theorem C8o.free {t : TypeId} {w : World} {b : Nat} {r : ByteArray} {e : Int} (h : C8o t w b r e) (j : Nat) : w.frozen? ⟨b,j,none⟩ = false := frozen_of_row w b j _ t h
theorem C8o.lt {t : TypeId} {w : World} {b : Nat} {r : ByteArray} {e : Int} (h : C8o t w b r e) : b < w.heap.size := (ltO h)
theorem C8o.rest {t : TypeId} {w : World} {b : Nat} {r : ByteArray} {e : Int} (h : C8o t w b r e) (r' : ByteArray) : C8o t (w.setCell ⟨b,0,none⟩ (.string r')) b r' e := by
 unfold C8o;rw [heap_setCell_same w b 0 _ t _ h];rfl
theorem C8o.err {t : TypeId} {w : World} {b : Nat} {r : ByteArray} {e : Int} (h : C8o t w b r e) (e' : Int) : C8o t (w.setCell ⟨b,1,none⟩ (.int .i64 e')) b r e' := by
 unfold C8o;rw [heap_setCell_same w b 1 _ t _ h];rfl
theorem C8o.below {t : TypeId} {w w' : World} {b : Nat} {r : ByteArray} {e : Int} (h : C8o t w b r e) (hb : Below w.heap.size w w') : C8o t w' b r e := (hb.block b h.lt).trans h
theorem C5v (w : World) (b j : Nat) (u : Value) : w.grownBy (w.setCell ⟨b,j,none⟩ u) (some b) := by
 refine ⟨rfl,rfl,rfl,by simp [World.setCell],fun k _ hk=>heap_setCell_other w ⟨b,j,none⟩ k u (fun e=>hk (by rw [e]))⟩
theorem grown_below {w w' : World} {row : Option Nat} (hb : Below w.heap.size w w') : w.grownBy w' row := ⟨hb.os,hb.tape,hb.output,hb.size,fun k hk _ => hb.block k hk⟩
theorem A4z {w w1 w2 : World} {row : Option Nat} (h1 : w.grownBy w1 row) (h2 : w1.grownBy w2 row) : w.grownBy w2 row := by
 obtain ⟨a1,a2,a3,a4,a5⟩:=h1;obtain ⟨b1,b2,b3,b4,b5⟩:=h2;exact ⟨b1.trans a1,b2.trans a2,b3.trans a3,Nat.le_trans a4 b4,fun k hk hne=>(b5 k (Nat.lt_of_lt_of_le hk a4) hne).trans (a5 k hk hne)⟩
theorem C2j (w : World) (row : Option Nat) : w.grownBy w row := ⟨rfl,rfl,rfl,Nat.le_refl _,fun _ _ _ => rfl⟩
theorem F6d (s : ByteArray) {k n : Nat} (h : k + n ≤ s.size) : (s.extract k s.size).extract 0 n = s.extract k (k + n) := by
 apply A0h;rw [Lib.extract_data,Lib.extract_data,Lib.extract_data,List.drop_zero,Nat.sub_zero,List.take_take];congr 1;omega
theorem F7d (s : ByteArray) {k n : Nat} : (s.extract k s.size).extract n (s.extract k s.size).size = s.extract (k + n) s.size := by
 have hz:(s.extract k s.size).size=s.size-k:=by simp
 rw [hz];apply A0h;rw [Lib.extract_data,Lib.extract_data,Lib.extract_data];rw [List.take_of_length_le (l:=s.data.toList.drop k) (by simp),List.drop_drop];rw [List.take_of_length_le (by simp;omega),List.take_of_length_le (by simp)]
def B5j (t : TypeId) (w : World) (b : Nat) (s : ByteArray) (k : Nat) (e : Int) : Prop := C8o t w b (s.extract k s.size) e
end Go.Creel
namespace Go.Proofs.YtaffgndickdbiaaGreatDoor
open Go.Creel Go.RowKit
theorem F4h {l : List UInt8} (h : ∀ j,j < l.length → bl l j = 0) : l = List.replicate l.length 0 := by
 apply List.ext_getElem (by simp);intro i h1 h2;rw [List.getElem_replicate];have:=h i h1;unfold bl at this;rw [List.getD_eq_getElem?_getD,List.getElem?_eq_getElem h1] at this;simp only [Option.getD_some] at this;exact UInt8.toNat_inj.1 this
theorem F5o {l : List UInt8} {k : Nat} (hk : k < l.length) (h : bl l k ≠ 0) : ¬ l = List.replicate l.length 0 := by
 intro e;apply h;unfold bl;rw [e,List.getD_eq_getElem?_getD,List.getElem?_replicate];simp [hk]
theorem F3r (v : Value) (l : List UInt8) (w : World) (h : A4a maxLen 1 A1e w [v] l) :
 Calls Tryz.prog 62 #[v] w fun e w'=>e=.returned (.bool (decide (l=List.replicate l.length 0)))/\w=w':=by
 rcases B1h h with ⟨a,cap,rfl,rfl⟩|⟨b,off,cap,rfl,hpos,hle,hm,_,hc⟩
 ·go_enter Tryz.func62,Tryz.ntmps62;go_wp2
  go_loop [4,7] (fun _ i=>i=.int .i64 0) (fun _ _=>0)
  case atStart=>rfl
  case round =>
   obtain rfl:=hrel;go_wp2;go_ret;exact ⟨rfl,rfl⟩
 ·unfold maxLen at hm;have Hc:=Hi hc;clear hc h;go_enter Tryz.func62,Tryz.ntmps62;go_wp2
  go_loop [4,7] (fun _ i=>∃ k:Nat,k<=l.length/\i=.int .i64 k/\Hid (∀ j,j<k->bl l j=0)) (fun _ i=>l.length-(intOf i).toNat)
  case atStart=>exact ⟨0,by omega,rfl,Hi (fun j hj=>absurd hj (by omega))⟩
  case round =>
   obtain ⟨k,hk,rfl,HD⟩:=hrel;by_cases hlt:k<l.length
   ·have hcell:=Hc.out k hlt;by_cases hz:bl l k=0
    ·have hq:((bl l k:Int) != 0)=false:=by rw [hz];rfl
     have HZ:=Hi hz;clear hz;go_wp2
     go_round
     case rel=>exact ⟨k+1,by omega,by go_num,Hi (fun j hj=>by
      by_cases e:j=k
      ·rw [e];exact HZ.out
      ·exact HD.out j (by omega))⟩
     case measure=>simp [intOf];omega
    ·have hq:((bl l k:Int) != 0)=true:=by rw [bne_iff_ne];omega
     have HF:=Hi (F5o hlt hz);clear hz;go_wp2;go_ret;exact ⟨congrArg (fun q=>Ending.returned (Value.bool q)) (decide_eq_false HF.out).symm,rfl⟩
   ·obtain rfl:k=l.length:=by omega
    have HF:=Hi (F4h HD.out);go_wp2;go_ret;exact ⟨congrArg (fun q=>Ending.returned (Value.bool q)) (decide_eq_true HF.out).symm,rfl⟩
abbrev B4r : TypeId := 182
theorem C8p (b : Nat) (s : ByteArray) (k n : Nat) (e : Int) (w : World) (h : B5j B4r w b s k e) (hk : k + n ≤ s.size) (hs : s.size ≤ 1000) :
 Calls Tryz.prog 168 #[.pointer (some ⟨b,0,none⟩),.int .i64 n] w fun x w'=>x=.returned (.string (s.extract k (k+n)))/\B5j B4r w' b s (k+n) e/\w.grownBy w' (some b):=by
 have hT:=Hi (F6d s hk);have hD:=Hi (F7d s (k:=k) (n:=n));have hz:(s.extract k s.size).size=s.size-k:=by simp
 have H:Hid (C8o B4r w b (s.extract k s.size) e):=Hi h;have hn:n<=(s.extract k s.size).size:=by omega
 have hl:(s.extract k s.size).size<=1000:=by omega
 clear h hz;unfold B5j;rw [<-hT.out,<-hD.out];clear hT hD;generalize s.extract k s.size=r at *;have c0:=H.out.c0;have f0:=H.out.free 0;have HG:=Hi (C5v w b 0 (.string (r.extract n r.size)));go_enter Tryz.func168,Tryz.ntmps168;go_wp2;go_ret;exact ⟨rfl,H.out.rest _,HG.out⟩
theorem C9p (b : Nat) (s : ByteArray) (k : Nat) (e f : Int) (w : World) (h : B5j B4r w b s k e) :
 Calls Tryz.prog 169 #[.pointer (some ⟨b,0,none⟩),.int .i64 f] w fun x w'=>x=.returned (.tuple #[])/\B5j B4r w' b s k (A5b e f)/\w.grownBy w' (some b):=by
 have H:Hid (C8o B4r w b (s.extract k s.size) e):=Hi h;unfold B5j;clear h;generalize s.extract k s.size=r at *;have c1:=H.out.c1;have f1:=H.out.free 1;have HG:=Hi (C5v w b 1 (.int .i64 f));by_cases h0:e=0
 ·have hq:(e==0)=true:=by rw [beq_iff_eq];exact h0
  have HN:=Hi (F7c (f:=f) h0);clear h0;go_enter Tryz.func169,Tryz.ntmps169;go_wp2
  go_end0
  rw [HN.out];exact ⟨rfl,H.out.err _,HG.out⟩
 ·have hq:(e==0)=false:=by rw [beq_eq_false_iff_ne];exact h0
  have HN:=Hi (E0k (f:=f) h0);clear h0;go_enter Tryz.func169,Tryz.ntmps169;go_wp2
  go_end0
  rw [HN.out];exact ⟨rfl,H.out,C2j _ _⟩
theorem C2y (b : Nat) (s : ByteArray) (k n : Nat) (wh : Bool) (e : Int) (w : World) (h : B5j B4r w b s k e) (hk : k + n ≤ s.size) (hs : s.size ≤ 1000) :
 Calls Tryz.prog 166 #[.pointer (some ⟨b,0,none⟩),.int .i64 n,.bool wh] w fun x w'=>x=.returned (.string (A8e (s.extract k (k+n)) wh).1)/\B5j B4r w' b s (k+n) (A5b e (A8e (s.extract k (k+n)) wh).2)/\w.grownBy w' (some b):=by
 have HT:=Hi (fun w h=>C8p b s k n e w h hk hs);have HF:=Hi (fun w=>D9k (s.extract k (k+n)) wh w (by unfold maxLen;simp;omega));have HN:=Hi (fun w f h=>C9p b s (k+n) e f w h);have H:=Hi h;clear h;generalize A8e (s.extract k (k+n)) wh=p at *;obtain ⟨p1,p2⟩:=p;go_enter Tryz.func166,Tryz.ntmps166;go_wp2_with fail
 refine (HT.out _ H.out).mono ?_;rintro x w1 ⟨rfl,h1,g1⟩;have H1:=Hi h1;have G1:=Hi g1;clear h1 g1;go_wp2_with fail
 refine (HF.out _).mono ?_;rintro x w2 ⟨rfl,hb⟩;have H2:=Hi (C8o.below H1.out hb);have G2:=Hi (A4z G1.out (grown_below hb));clear hb;go_wp2_with fail
 refine (HN.out _ _ H2.out).mono ?_;rintro x w3 ⟨rfl,h1,g1⟩;have H3:=Hi h1;have G3:=Hi (A4z G2.out g1);clear h1 g1;go_wp2;go_ret;exact ⟨rfl,H3.out,G3.out⟩
theorem E4x (b : Nat) (s : ByteArray) (k n : Nat) (e : Int) (w : World) (h : B5j B4r w b s k e) (hk : k + n ≤ s.size) (hs : s.size ≤ 1000) :
 Calls Tryz.prog 167 #[.pointer (some ⟨b,0,none⟩),.int .i64 n] w fun x w'=>x=.returned (.int .i64 (A9j (s.extract k (k+n))).1)/\B5j B4r w' b s (k+n) (A5b e (A9j (s.extract k (k+n))).2)/\w.grownBy w' (some b):=by
 have HT:=Hi (fun w h=>C8p b s k n e w h hk hs);have HF:=Hi (fun w=>C8x (s.extract k (k+n)) w (by unfold maxLen;simp;omega));have HN:=Hi (fun w f h=>C9p b s (k+n) e f w h);have H:=Hi h;clear h;generalize A9j (s.extract k (k+n))=p at *;obtain ⟨p1,p2⟩:=p;go_enter Tryz.func167,Tryz.ntmps167;go_wp2_with fail
 refine (HT.out _ H.out).mono ?_;rintro x w1 ⟨rfl,h1,g1⟩;have H1:=Hi h1;have G1:=Hi g1;clear h1 g1;go_wp2_with fail
 refine (HF.out _).mono ?_;rintro x w2 ⟨rfl,rfl⟩;go_wp2_with fail
 refine (HN.out _ _ H1.out).mono ?_;rintro x w3 ⟨rfl,h1,g1⟩;have H3:=Hi h1;have G3:=Hi (A4z G1.out g1);clear h1 g1;go_wp2;go_ret;exact ⟨rfl,H3.out,G3.out⟩
theorem E4h (b : Nat) (s t : ByteArray) (k n : Nat) (e : Int) (w : World) (h : B5j B4r w b s k e) (hn : t.size = n) (hk : k + n ≤ s.size) (hs : s.size ≤ 1000) :
 Calls Tryz.prog 170 #[.pointer (some ⟨b,0,none⟩),.string t] w fun x w'=>x=.returned (.tuple #[])/\B5j B4r w' b s (k+n) (A5b e (B6o s k (k+n) t))/\w.grownBy w' (some b):=by
 have HT:=Hi (fun w h=>C8p b s k n e w h hk hs);have HN:=Hi (fun w f h=>C9p b s (k+n) e f w h);have H:=Hi h;have hn':=hn;clear h;by_cases he:s.extract k (k+n)=t
 ·have hq:=B3n he;have HJ:=Hi (show A5b e (B6o s k (k+n) t)=e by
   unfold B6o A5b;rw [if_pos he];split<;>omega)
  clear he;go_enter Tryz.func170,Tryz.ntmps170;go_wp2_with fail
  refine (HT.out _ H.out).mono ?_;rintro x w1 ⟨rfl,h1,g1⟩;have H1:=Hi h1;have G1:=Hi g1;clear h1 g1;go_wp2
  go_end0
  rw [HJ.out];exact ⟨rfl,H1.out,G1.out⟩
 ·have hq:=A5w he;have HJ:=Hi (show B6o s k (k+n) t=3 by unfold B6o;rw [if_neg he]);clear he;go_enter Tryz.func170,Tryz.ntmps170;go_wp2_with fail
  refine (HT.out _ H.out).mono ?_;rintro x w1 ⟨rfl,h1,g1⟩;have H1:=Hi h1;have G1:=Hi g1;clear h1 g1;go_wp2_with fail
  refine (HN.out _ _ H1.out).mono ?_;rintro x w3 ⟨rfl,h1,g1⟩;have H3:=Hi h1;have G3:=Hi (A4z G1.out g1);clear h1 g1;go_wp2
  go_end0
  rw [HJ.out];exact ⟨rfl,H3.out,G3.out⟩
end Go.Proofs.YtaffgndickdbiaaGreatDoor
