/- A part of the proof. -/
import Derived.Test.YtaffgndickdbiaaGreatDoorV44
set_option linter.unusedVariables false
set_option linter.unusedSimpArgs false
set_option maxRecDepth 100000
set_option maxHeartbeats 4000000
namespace Go.Creel
open Go.RowKit
noncomputable def A9f (l : List Nod) (s : ByteArray) : List Nod × Int := if ¬ A0a l = 0 then ([],A0a l) else if A1a l s < l.length then (l.filter (fun x => !B1v x s),0) else ([],5)
theorem A6t {l : List Nod} {s : ByteArray} (h : ¬ A0a l = 0) : A9f l s = ([],A0a l) := by unfold A9f; rw [if_pos h]
theorem A5o {l : List Nod} {s : ByteArray} (h : A0a l = 0) (h1 : ¬ A1a l s < l.length) : A9f l s = ([],5) := by unfold A9f; rw [if_neg (by simpa using h),if_neg h1]
theorem A8w {l : List Nod} {s : ByteArray} (h : A0a l = 0) (h1 : A1a l s < l.length) : A9f l s = (l.filter (fun x => !B1v x s),0) := by unfold A9f; rw [if_neg (by simpa using h),if_pos h1]
theorem E2e {c l : List Nod} (s : ByteArray) (h : c.map Nod.bare = l.map Nod.bare) : (c.filter fun x => !B1v x s).map Nod.bare = (l.filter fun x => !B1v x s).map Nod.bare := by
 have e:=congrArg (List.filter fun x => !B1v x s) h;rw [List.filter_map,List.filter_map] at e;exact e
theorem remB_eq {x : Nod} {s : ByteArray} (h : x.path = s) : B1v x s = true := by unfold B1v; rw [B3n h]; rfl
theorem remB_ne {x : Nod} {s : ByteArray} (h : ¬ x.path = s) : B1v x s = B3c x.path s := by unfold B1v; rw [A5w h]; rfl
structure Renames (f : Int → Int) : Prop where
 inj:∀ a b,f a=f b↔a=b
 zero:∀ a,f a=0↔a=0
 neg:∀ a,f a<0↔a<0
def Nod.told (f : Int → Int) (x : Nod) : Nod := { x with same := f x.same,da := none,dcap := 0 }
theorem C6h : Renames id := ⟨fun _ _ => Iff.rfl,fun _ => Iff.rfl,fun _ => Iff.rfl⟩
theorem C1u {f : Int → Int} (hf : Renames f) (l : List Nod) (i : Nat) : nk (l.map (Nod.told f)) i = (nk l i).told f := by
 unfold nk;rw [List.getD_eq_getElem?_getD,List.getD_eq_getElem?_getD,List.getElem?_map];cases l[i]? with
 | some x=>rfl
 | none =>
   show nodZ=nodZ.told f
   have h0:=(hf.zero 0).2 rfl;unfold Nod.told nodZ;simp only [h0]
theorem C2e (f : Int → Int) (s : ByteArray) : ∀ l : List Nod,A1a (l.map (Nod.told f)) s = A1a l s
 | []=>rfl
 | x::l=>by
   rw [List.map_cons];unfold A1a;rw [C2e f s l];rfl
theorem D4h {f : Int → Int} (hf : Renames f) (x : Nod) : A6c (x.told f) = A6c x := by
 unfold A6c A0k Nod.told;simp only [hf.zero,hf.neg]
theorem E2q {f : Int → Int} (hf : Renames f) (l : List Nod) (i : Nat) : A9k (l.map (Nod.told f)) i = A9k l i := by
 have hz:∀ x:Nod,(x.told f).same=0↔x.same=0:=fun x=>hf.zero _
 have hi:∀ x y:Nod,(x.told f).same=(y.told f).same↔x.same=y.same:=fun x y=>hf.inj _ _
 have hl:∀ x y:Nod,A5x (x.told f) (y.told f)=A5x x y:=fun _ _=>rfl
 have hp:∀ x:Nod,(x.told f).path=x.path:=fun _=>rfl
 have hk:∀ x:Nod,(x.told f).kind=x.kind:=fun _=>rfl
 unfold A9k;simp only [C1u hf,D4h hf,<-List.map_take,C2e,hp,hk,hl,hi,ne_eq,hz]
theorem D8n {l m : List Nod} (hl : m.length = l.length) (hs : ∀ i,A9k m i = A9k l i) : A0a m = A0a l := by
 have e:A9k m=A9k l:=funext hs;unfold A0a;rw [hl,e]
theorem B0w {f : Int → Int} (hf : Renames f) (l : List Nod) : A0a (l.map (Nod.told f)) = A0a l :=
 D8n (List.length_map _) (E2q hf l)
theorem E0j (f : Int → Int) (l : List Nod) (n : Nod) : B6h (l.map (Nod.told f)) (n.told f) = (B6h l n).map (Nod.told f) := by
 unfold B6h;rw [List.map_append,List.map_cons,List.takeWhile_map,List.dropWhile_map,List.filter_map];rfl
theorem B5r {f : Int → Int} (hf : Renames f) (l : List Nod) (n : Nod) : A5h (l.map (Nod.told f)) (n.told f) = ((A5h l n).1.map (Nod.told f),(A5h l n).2) := by
 have h1:=B0w hf l;have h2:=(congrArg A0a (E0j f l n)).trans (B0w hf (B6h l n));by_cases h:A0a l=0
 ·by_cases g:A0a (B6h l n)=0
  ·rw [B9d (h1.trans h) (h2.trans g),B9d h g,E0j]
  ·rw [A7y (h1.trans h) (by rw [h2];exact g),A7y h g,h2];rfl
 ·rw [B4f (by rw [h1];exact h),B4f h,h1];rfl
theorem C4q {f : Int → Int} (hf : Renames f) (l : List Nod) (s : ByteArray) : A9f (l.map (Nod.told f)) s = ((A9f l s).1.map (Nod.told f),(A9f l s).2) := by
 have h1:=B0w hf l;have h2:=C2e f s l;by_cases h:A0a l=0
 ·by_cases g:A1a l s<l.length
  ·rw [A8w (h1.trans h) (by rw [h2,List.length_map];exact g),A8w h g,List.filter_map];rfl
  ·rw [A5o (h1.trans h) (by rw [h2,List.length_map];exact g),A5o h g];rfl
 ·rw [A6t (by rw [h1];exact h),A6t h,h1];rfl
theorem E8t {f : Int → Int} (hf : Renames f) (l : List Nod) (i : Nat) (s : Int) : A8x (l.map (Nod.told f)) i (f s) = A8x l i s := by
 have hi:∀ x:Nod,(x.told f).same=f s↔x.same=s:=fun x=>hf.inj _ _
 unfold A8x;simp only [C1u hf,hi]
theorem E9d {f : Int → Int} (hf : Renames f) (l : List Nod) (k : Nat) : A2e (l.map (Nod.told f)) k = A2e l k := by
 have hz:∀ x:Nod,(x.told f).same=0↔x.same=0:=fun x=>hf.zero _
 have hs:∀ x:Nod,(x.told f).same=f x.same:=fun _=>rfl
 unfold A2e;simp only [C1u hf,hz];rw [hs,E8t hf]
theorem E3f {f : Int → Int} (hf : Renames f) (l : List Nod) (i : Nat) : B6y (l.map (Nod.told f)) i = B6y l i := by
 unfold B6y A1z;simp only [E9d hf,List.length_map]
theorem E5v {f : Int → Int} (hf : Renames f) (l : List Nod) : B8p (l.map (Nod.told f)) = (B8p l).map Nod.bare := by
 unfold B8p;rw [List.length_map,List.map_map];refine List.map_congr_left fun i _=>?_
 rw [C1u hf,E3f hf];rfl
theorem D8h {f : Int → Int} (hf : Renames f) (l : List Nod) : A0q (l.map (Nod.told f)) = ((A0q l).1.map Nod.bare,(A0q l).2) := by
 have h1:=B0w hf l;by_cases h:A0a l=0
 ·rw [A8u (h1.trans h),A8u h,E5v hf]
 ·rw [B1b (by rw [h1];exact h),B1b h,h1];rfl
def A4g (a : Int) (dir : ByteArray) (x : Nod) : Nod := { x with path := dir ++ ⟨#[47]⟩ ++ x.path,same := if 0 < x.same then x.same + a else x.same }
noncomputable def A4u (l : List Nod) (y : Nod) : List Nod := if A1a l y.path < l.length ∧ ¬ ((nk l (A1a l y.path)).kind = 2 ∧ y.kind = 2) then (A9f l y.path).1 else l
noncomputable def A4o (a : Int) (dir : ByteArray) : List Nod → List Nod → List Nod × Int
 | l,[]=>A0q l
 | l,x::r=>if (A5h (A4u l (A4g a dir x)) (A4g a dir x)).2=0 then A4o a dir (A5h (A4u l (A4g a dir x)) (A4g a dir x)).1 r else ([],(A5h (A4u l (A4g a dir x)) (A4g a dir x)).2)
theorem D3n {f : Int → Int} (hf : Renames f) (l : List Nod) (y : Nod) : A4u (l.map (Nod.told f)) (y.told f) = (A4u l y).map (Nod.told f) := by
 have hk:∀ x:Nod,(x.told f).kind=x.kind:=fun _=>rfl
 have hp:(y.told f).path=y.path:=rfl;unfold A4u;simp only [hp,hk,C2e,C1u hf,List.length_map,C4q hf];split<;>rfl
theorem B1z {f : Int → Int} (hf : Renames f) {a b : Int} (hab : ∀ s : Int,(if 0 < s then s + b else s) = f (if 0 < s then s + a else s)) (dir : ByteArray) :
 ∀ c l:List Nod,A4o b dir (l.map (Nod.told f)) (c.map Nod.bare)=((A4o a dir l c).1.map Nod.bare,(A4o a dir l c).2)
 | [],l=>D8h hf l
 | x::c,l=>by
   have hy:A4g b dir x.bare=(A4g a dir x).told f:=by
    unfold A4g Nod.told Nod.bare;simp only [hab]
   rw [List.map_cons];unfold A4o;rw [hy,D3n hf,B5r hf];simp only;by_cases h:(A5h (A4u l (A4g a dir x)) (A4g a dir x)).2=0
   ·rw [if_pos h,if_pos h];exact B1z hf hab dir c _
   ·rw [if_neg h,if_neg h];rfl
theorem C5g (a : Int) (dir : ByteArray) (c l : List Nod) : A4o a dir (l.map Nod.bare) (c.map Nod.bare) = ((A4o a dir l c).1.map Nod.bare,(A4o a dir l c).2) :=
 B1z C6h (fun _=>rfl) dir c l
theorem C3q {a : Int} {dir : ByteArray} {c d l m : List Nod} (h : l.map Nod.bare = m.map Nod.bare) (hc : c.map Nod.bare = d.map Nod.bare) :
 (A4o a dir l c).1.map Nod.bare=(A4o a dir m d).1.map Nod.bare/\(A4o a dir l c).2=(A4o a dir m d).2:=by
 have h1:=C5g a dir c l;have h2:=C5g a dir d m;rw [h,hc,h2] at h1;exact ⟨(congrArg Prod.fst h1).symm,(congrArg Prod.snd h1).symm⟩
def D0o (s : Int) : Int := if s ≤ 40 then s else s + 960
theorem E7q : Renames D0o := by
 refine ⟨fun a b=>?_,fun a=>?_,fun a=>?_⟩<;>unfold D0o<;>constructor<;>intro h<;>(repeat' split at h)<;>(repeat' split)<;>omega
theorem E9p {l : List Nod} (h : ∀ x ∈ l,x.same ≤ 40) : l.map (Nod.told D0o) = l.map Nod.bare := by
 refine List.map_congr_left fun x hx=>?_
 unfold Nod.told Nod.bare D0o;rw [if_pos (h x hx)]
theorem F2h (l : List Nod) {i : Nat} (h : i < l.length) : B6y l i ≤ l.length := by
 have:=C6v l i;unfold B6y;split<;>omega
theorem E4f {l : List Nod} (h : l.length ≤ 40) : ∀ x ∈ B8p l,x.same ≤ 40 := by
 intro x hx;obtain ⟨i,hi,rfl⟩:=List.mem_map.1 hx;have:=F2h l (List.mem_range.1 hi);simp only;omega
theorem D8z {dir : ByteArray} {c l : List Nod} (h : l.length ≤ 40) :
 (A4o 1000 dir (B8p l) c).1.map Nod.bare=(A4o 40 dir (B8p l) c).1.map Nod.bare/\(A4o 1000 dir (B8p l) c).2=(A4o 40 dir (B8p l) c).2:=by
 have h1:=B1z E7q (a:=40) (b:=1000) (fun s=>by unfold D0o;repeat' split<;>omega) dir c (B8p l);rw [E9p (E4f h),C5g] at h1;exact Prod.mk.inj h1
noncomputable def A6h (a : Int) (t : List Nod) (dir : ByteArray) (b : List UInt8) : List Nod × Int :=
 if ¬ A0a t=0 then ([],A0a t) else if ¬ A1a t dir<t.length then ([],5) else if ¬ (nk t (A1a t dir)).kind=2 then ([],10)
 else if ¬ (A4j b).2=0 then ([],(A4j b).2) else A4o a dir (B8p t) (A4j b).1
theorem C9m {a : Int} {t : List Nod} {dir : ByteArray} {b : List UInt8} (h : ¬ A0a t = 0) : A6h a t dir b = ([],A0a t) := by unfold A6h; rw [if_pos h]
theorem C3c {a : Int} {t : List Nod} {dir : ByteArray} {b : List UInt8} (h : A0a t = 0) (h1 : ¬ A1a t dir < t.length) : A6h a t dir b = ([],5) := by unfold A6h; rw [if_neg (by simpa using h),if_pos h1]
theorem C9r {a : Int} {t : List Nod} {dir : ByteArray} {b : List UInt8} (h : A0a t = 0) (h1 : A1a t dir < t.length) (h2 : ¬ (nk t (A1a t dir)).kind = 2) : A6h a t dir b = ([],10) := by
 unfold A6h;rw [if_neg (by simpa using h),if_neg (by simpa using h1),if_pos h2]
theorem C4c {a : Int} {t : List Nod} {dir : ByteArray} {b : List UInt8} (h : A0a t = 0) (h1 : A1a t dir < t.length) (h2 : (nk t (A1a t dir)).kind = 2) {c : List Nod} {e : Int} (hr : A4j b = (c,e)) (he : ¬ e = 0) : A6h a t dir b = ([],e) := by
 unfold A6h;rw [if_neg (by simpa using h),if_neg (by simpa using h1),if_neg (by simpa using h2),hr];simp only;rw [if_pos he]
theorem C0s {a : Int} {t : List Nod} {dir : ByteArray} {b : List UInt8} (h : A0a t = 0) (h1 : A1a t dir < t.length) (h2 : (nk t (A1a t dir)).kind = 2) {c : List Nod} {e : Int} (hr : A4j b = (c,e)) (he : e = 0) : A6h a t dir b = A4o a dir (B8p t) c := by
 unfold A6h;rw [if_neg (by simpa using h),if_neg (by simpa using h1),if_neg (by simpa using h2),hr];simp only;rw [if_neg (by simpa using he)]
theorem D5g (t : List Nod) (dir : ByteArray) (b : List UInt8) : (A6h 1000 t dir b).1.map Nod.bare = (A6h 40 t dir b).1.map Nod.bare ∧ (A6h 1000 t dir b).2 = (A6h 40 t dir b).2 := by
 unfold A6h;split
 ·exact ⟨rfl,rfl⟩
 ·rename_i h
  split
  ·exact ⟨rfl,rfl⟩
  ·split
   ·exact ⟨rfl,rfl⟩
   ·split
    ·exact ⟨rfl,rfl⟩
    ·exact D8z (A2b (by simpa using h)).1
theorem F1h (l : List Nod) : (A0q l).1.length ≤ 40 := by
 by_cases h:A0a l=0
 ·rw [A8u h,C2f];exact (A2b h).1
 ·rw [B1b h];simp
theorem B7w {l : List Nod} {s : ByteArray} {n : Nat} (h : l.length ≤ n) : (A9f l s).1.length ≤ n := by
 by_cases h1:A0a l=0
 ·by_cases hf:A1a l s<l.length
  ·rw [A8w h1 hf];exact Nat.le_trans (List.length_filter_le _ _) h
  ·rw [A5o h1 hf];simp
 ·rw [A6t h1];simp
theorem C5q (l : List Nod) (n : Nod) : (A5h l n).1.length ≤ 40 := by
 by_cases h:A0a l=0
 ·by_cases h2:A0a (B6h l n)=0
  ·rw [B9d h h2];exact (A2b h2).1
  ·rw [A7y h h2];simp
 ·rw [B4f h];simp
theorem C8z (a : Int) (dir : ByteArray) : ∀ c l : List Nod,(A4o a dir l c).1.length ≤ 40
 | [],l=>F1h l
 | x::c,l=>by
   unfold A4o;split
   ·exact C8z a dir c _
   ·simp
theorem D2p (a : Int) (t : List Nod) (dir : ByteArray) (b : List UInt8) : (A6h a t dir b).1.length ≤ 40 := by
 unfold A6h
 repeat' split
 all_goals first|exact C8z a dir _ _|simp
theorem E3t {l : List Ent} (hz : A0b l = 0) {i : Nat} (hi : i < l.length) : 0 ≤ (B3b l l.length i).same ∧ (B3b l l.length i).same ≤ 41 := by
 have h40:=(A7j hz).1;by_cases h:(ek l i).kind=4
 ·have:=(A8v hz hi h).1;rw [B5e h];show (0:Int)<=(A3j l i:Int)+1/\(A3j l i:Int)+1<=41
  omega
 ·rw [A1w h];show (0:Int)<=(if A1m l i l.length=true then (i:Int)+1 else 0)/\(if A1m l i l.length=true then (i:Int)+1 else 0)<=41
  split<;>omega
theorem D4g {b : List UInt8} (h : (A4j b).2 = 0) : ∀ x ∈ (A4j b).1,0 ≤ x.same ∧ x.same ≤ 41 := by
 obtain ⟨⟨l,e0⟩,hk⟩:∃ q,B3j b=q:=⟨_,rfl⟩;by_cases he:e0=0
 ·rw [B4n hk he] at h ⊢;by_cases hz:A0b l=0
  ·rw [B1d hz];intro x hx;obtain ⟨i,hi,rfl⟩:=List.mem_map.1 hx;exact E3t hz (List.mem_range.1 hi)
  ·rw [B7g hz] at h;exact absurd h hz
 ·rw [B9h hk he] at h;exact absurd h he
structure Comes (x : Nod) : Prop where
 path:x.path.size<=400
 data:x.data.length<=2000
 same0:0<=x.same
 same1:x.same<=41
theorem D5v {b : List UInt8} {c l : List Nod} {e : Int} (hr : A4j b = (l,e)) (he : e = 0) (h : c.map Nod.bare = l.map Nod.bare) : ∀ k,k < c.length → Comes (nk c k) := by
 have h0:(A4j b).2=0:=by rw [hr];exact he
 have h1:=C0z h0;have h2:=D4g h0;rw [hr] at h1 h2;simp only at h1 h2;intro k hk;have hl:=A5i h;obtain ⟨e1,e2,e3,e4,e5,e6⟩:=B1f (D4j h hk);have hm:nk l k∈l:=by rw [A5m (by omega)];exact List.getElem_mem _
 exact ⟨by rw [e1];exact (h1 _ hm).1,by rw [e6];exact (h1 _ hm).2,by rw [e3];exact (h2 _ hm).1,by rw [e3];exact (h2 _ hm).2⟩
theorem D8u {t : List Nod} {dir : ByteArray} (h : A0a t = 0) (h1 : A1a t dir < t.length) : dir.size ≤ 400 := by
 have h2:=B3o ((A2b h).2 _ h1);rw [B5f h1] at h2;exact h2
noncomputable def goB (l : List Nod) (y : Nod) : Bool := decide (A1a l y.path < l.length ∧ ¬ ((nk l (A1a l y.path)).kind = 2 ∧ y.kind = 2))
theorem E3m {l : List Nod} {y : Nod} (h : ¬ A1a l y.path < l.length) : goB l y = false := decide_eq_false fun e => h e.1
theorem E4m {l : List Nod} {y : Nod} (h1 : (nk l (A1a l y.path)).kind = 2) (h2 : y.kind = 2) : goB l y = false := decide_eq_false fun e => e.2 ⟨h1,h2⟩
theorem F0f {l : List Nod} {y : Nod} (h : A1a l y.path < l.length) (h1 : ¬ (nk l (A1a l y.path)).kind = 2) : goB l y = true := decide_eq_true ⟨h,fun e => h1 e.1⟩
theorem F1f {l : List Nod} {y : Nod} (h : A1a l y.path < l.length) (h2 : ¬ y.kind = 2) : goB l y = true := decide_eq_true ⟨h,fun e => h2 e.2⟩
theorem D4n {l : List Nod} {y : Nod} (h : goB l y = true) : A4u l y = (A9f l y.path).1 := by unfold A4u; rw [if_pos (of_decide_eq_true h)]
theorem D5n {l : List Nod} {y : Nod} (h : goB l y = false) : A4u l y = l := by unfold A4u; rw [if_neg (of_decide_eq_false h)]
theorem E1j {l m : List Nod} {y : Nod} (h : m.map Nod.bare = l.map Nod.bare) : (A5h m y).1.map Nod.bare = (A5h l y).1.map Nod.bare ∧ (A5h m y).2 = (A5h l y).2 := by
 have h1:=B5r C6h m y;have h2:=B5r C6h l y;have e:l.map (Nod.told id)=m.map (Nod.told id):=h.symm;rw [<-e,h2] at h1;exact ⟨(congrArg Prod.fst h1).symm,(congrArg Prod.snd h1).symm⟩
def TGo (a : Int) (dir : ByteArray) (o r : List Nod) (U : List Nod × Int) : Prop := (A4o a dir o r).1.map Nod.bare = U.1.map Nod.bare ∧ (A4o a dir o r).2 = U.2
theorem TGo.start {a : Int} {dir : ByteArray} {o l c d : List Nod} (h : o.map Nod.bare = l.map Nod.bare) (hc : c.map Nod.bare = d.map Nod.bare) : TGo a dir o c (A4o a dir l d) := C3q h hc
theorem TGo.done {a : Int} {dir : ByteArray} {o c : List Nod} {U : List Nod × Int} (h : TGo a dir o (c.drop c.length) U) : (A0q o).1.map Nod.bare = U.1.map Nod.bare ∧ (A0q o).2 = U.2 := by
 rw [List.drop_length] at h;exact h
theorem TGo.bad {a : Int} {dir : ByteArray} {o c o2 : List Nod} {k : Nat} {U : List Nod × Int} (h : TGo a dir o (c.drop k) U) (hk : k < c.length) (h2 : o2.map Nod.bare = (A4u o (A4g a dir (nk c k))).map Nod.bare)
 (he:¬ (A5h o2 (A4g a dir (nk c k))).2=0):U.1.map Nod.bare=[]/\U.2=(A5h o2 (A4g a dir (nk c k))).2:=by
 rw [List.drop_eq_getElem_cons hk,<-A5m hk] at h;unfold TGo A4o at h;have e:=(E1j (y:=A4g a dir (nk c k)) h2).2;rw [if_neg (by rw [<-e];exact he),<-e] at h;exact ⟨h.1.symm,h.2.symm⟩
theorem TGo.next {a : Int} {dir : ByteArray} {o c o2 o3 : List Nod} {k : Nat} {U : List Nod × Int} (h : TGo a dir o (c.drop k) U) (hk : k < c.length) (h2 : o2.map Nod.bare = (A4u o (A4g a dir (nk c k))).map Nod.bare)
 (he:(A5h o2 (A4g a dir (nk c k))).2=0) (h3:o3.map Nod.bare=(A5h o2 (A4g a dir (nk c k))).1.map Nod.bare):TGo a dir o3 (c.drop (k+1)) U:=by
 rw [List.drop_eq_getElem_cons hk,<-A5m hk] at h;unfold TGo at h ⊢;unfold A4o at h;obtain ⟨e1,e2⟩:=E1j (y:=A4g a dir (nk c k)) h2;rw [if_pos (by rw [<-e2];exact he)] at h;obtain ⟨g1,g2⟩:=C3q (a:=a) (dir:=dir) (c:=c.drop (k+1)) (d:=c.drop (k+1)) (h3.trans e1) rfl;exact ⟨g1.trans h.1,g2.trans h.2⟩
def A3s (t : TypeId) (w : World) (B : Nat) (v : Value) (l : List Int) : Prop := w.ownsRow B t 1 v l.length (l.map (Value.int .i64))
def D4q (l : List Int) (k : Nat) : Int := l.getD k 0
theorem C6s {l : List Int} {k : Nat} (h : k < l.length) : D4q l k = l[k] := by simp [D4q,List.getD_eq_getElem?_getD,List.getElem?_eq_getElem h]
theorem A3s.cell {t : TypeId} {w : World} {B g cap : Nat} {l : List Int} (h : A3s t w B (.slice (some ⟨g,0,none⟩) l.length cap) l) {j : Nat} (hj : j < l.length) : w.cell? ⟨g,j,none⟩ = some (.int .i64 (D4q l j)) := by
 rw [World.ownsRow.cellAt h j (by omega),C6s hj];simp [List.getElem?_eq_getElem hj]
theorem A3s.form {t : TypeId} {w : World} {B : Nat} {v : Value} {l : List Int} (h : A3s t w B v l) : (v = .slice none 0 0 ∧ l = []) ∨ ∃ g cap,v = .slice (some ⟨g,0,none⟩) l.length cap ∧ B ≤ g ∧ g < w.heap.size ∧ l.length ≤ cap ∧ cap ≤ maxLen := by
 rcases h.2 with ⟨rfl,h0⟩|⟨g,cap,cur,rfl,hbg,hg,hnc,hcm,hcs,htake⟩
 ·exact .inl ⟨rfl,List.eq_nil_of_length_eq_zero h0⟩
 ·refine .inr ⟨g,cap,rfl,hbg,?_,hnc,hcm⟩;rcases Nat.lt_or_ge g w.heap.size with h'|h'
  ·exact h'
  ·rw [Array.getElem?_eq_none h'] at hg;cases hg
theorem A3s.below {t : TypeId} {w w' : World} {B : Nat} {v : Value} {l : List Int} (h : A3s t w B v l) (hb : Below w.heap.size w w') : A3s t w' B v l := by
 refine ⟨h.1,?_⟩;rcases h.2 with h0|⟨g,cap,cur,hv,hbg,hg,r⟩
 ·exact .inl h0
 ·refine .inr ⟨g,cap,cur,hv,hbg,?_,r⟩;rw [hb.block g]
  ·exact hg
  ·rcases Nat.lt_or_ge g w.heap.size with h'|h'
   ·exact h'
   ·rw [Array.getElem?_eq_none h'] at hg;cases hg
theorem A3s.app {t : TypeId} {w' : World} {B : Nat} {v' : Value} {l m : List Int} (h : w'.ownsRow B t 1 v' (l.length + m.length) (l.map (Value.int .i64) ++ m.map (Value.int .i64))) : A3s t w' B v' (l ++ m) := by
 unfold A3s;rw [List.length_append,List.map_append];exact h
theorem A3s.mono {t : TypeId} {w : World} {B B' : Nat} {v : Value} {l : List Int} (h : A3s t w B v l) (hb : B' ≤ B) : A3s t w B' v l := by
 rcases h.2 with ⟨rfl,h0⟩|⟨g,cap,cur,rfl,hbg,hg,hnc,hcm,hcs,htake⟩
 ·exact ⟨h.1,.inl ⟨rfl,h0⟩⟩
 ·exact ⟨h.1,.inr ⟨g,cap,cur,rfl,Nat.le_trans hb hbg,hg,hnc,hcm,hcs,htake⟩⟩
def C4z (t : TypeId) (w : World) (p : List Int × Int) (e : Ending) (w' : World) : Prop := ∃ v,e = .returned (.tuple #[v,.int .i64 p.2]) ∧ A3s t w' w.heap.size v p.1 ∧ Below w.heap.size w w'
end Go.Creel
namespace Go.Proofs.YtaffgndickdbiaaGreatDoor
open Go.Creel Go.RowKit
theorem E8f (v : Value) (l : List Nod) (s : ByteArray) (w : World) (hM : A1n w) (h : A4a maxLen 12 (B6b maxLen) w [v] l) :
 Calls Tryz.prog 76 #[v,.string s] w (B4j 99 w (A9f l s)):=by
 have HBX:=Hi ((Below.refl w.heap.size w).alloc lr (.cells #[.string s] 9));have HM:=Hi (hM.below HBX.out);have H:=Hi (A8c h HBX.out);have hpc:(w.alloc (.cells #[.string s] 9)).cell? ⟨w.heap.size,0,none⟩=some (.string s):=by simp [World.cell?_alloc_new]
 have HPC:=Hi hpc;have HPL:=Hi (show w.heap.size<(w.alloc (.cells #[.string s] 9)).heap.size by simp);clear h hM hpc;by_cases hE:A0a l=0
 ·by_cases hF:A1a l s<l.length
  ·have HF:=Hi (A8w hE hF);have hfew:=(A2b hE).1;have HD:=Hi (B4c hE);have hss:s.size<=4000000000:=by
    have h1:=A2x ((A2b hE).2 _ hF);rw [B5f hF] at h1;omega
   have hpos:0<l.length:=by omega
   have HFI:=Hi (show A0u (A1a l s) l.length=(((A1a l s:Nat):Int),0) by unfold A0u;rw [if_pos hF]);have HE:=Hi hE;clear hE hF;go_enter Tryz.func76,Tryz.ntmps76;go_wp2_with fail
   refine (A9h v l _ HM.out H.out).mono ?_;rintro e w1 ⟨rfl,hb⟩;rw [HE.out];have HB1:=Hi hb;have H1:=Hi (A8c H.out hb);have hp1:w1.cell? ⟨w.heap.size,0,none⟩=some (.string s):=(hb.cell (p:=⟨w.heap.size,0,none⟩) HPL.out).trans HPC.out;clear hb;go_wp2_with fail
   refine (C1g v l s _ H1.out).mono ?_;rintro e w2 ⟨rfl,hb⟩;rw [HFI.out];have HB2:=Hi (HB1.out.trans (hb.mono HB1.out.size));have H2:=Hi (A8c H1.out hb);generalize A1a l s=q at *;clear hb hp1;go_wp2_with fail
   refine (C3y v l _ H2.out (by omega) HD.out).mono ?_;rintro e w3 ⟨v3,c,rfl,ho,hcl,hb⟩;have HB3:=Hi (HB2.out.trans (hb.mono HB2.out.size));have HB3s:=Hi hb.size;have hlen:=A5i hcl;have HCL:=Hi hcl;rcases ho.form with ⟨_,h0⟩|⟨g,cap,rfl,h1,h2,h3,h4⟩
   ·rw [h0] at hlen;simp at hlen;omega
   ·rw [hlen] at ho h3 ⊢;have HDR:=Hi (D5y g cap l.length w2.heap.size w.heap.size c s w3 hlen hpos (by omega) ho h3 h4 hb.size ((HB3.out.cell (p:=⟨w.heap.size,0,none⟩) HPL.out).trans HPC.out) (Nat.lt_of_lt_of_le HPL.out HB2.out.size) hss);clear hb ho hcl hlen h1 h2 h3 h4;go_wp2_with fail
    refine HDR.out.mono ?_;rintro e w4 ⟨v4,rfl,ho,hb⟩;have HO4:=Hi ho;have HB4:=Hi hb;clear ho hb;go_wp2;go_ret2;rw [HF.out];exact ⟨_,_,rfl,HO4.out.mono (Nat.le_trans HBX.out.size HB2.out.size),E2e s HCL.out,HBX.out.trans ((HB3.out.mono HBX.out.size).trans (HB4.out.mono (Nat.le_trans HBX.out.size HB2.out.size)))⟩
  ·have HF:=Hi (A5o hE hF);have HFI:=Hi (show A0u (A1a l s) l.length=(0,5) by unfold A0u;rw [if_neg hF]);have HE:=Hi hE;clear hE hF;go_enter Tryz.func76,Tryz.ntmps76;go_wp2_with fail
   refine (A9h v l _ HM.out H.out).mono ?_;rintro e w1 ⟨rfl,hb⟩;rw [HE.out];have HB1:=Hi hb;have H1:=Hi (A8c H.out hb);have hp1:w1.cell? ⟨w.heap.size,0,none⟩=some (.string s):=(hb.cell (p:=⟨w.heap.size,0,none⟩) HPL.out).trans HPC.out;clear hb;go_wp2_with fail
   refine (C1g v l s _ H1.out).mono ?_;rintro e w2 ⟨rfl,hb⟩;rw [HFI.out];have HB2:=Hi (HB1.out.trans (hb.mono HB1.out.size));clear hb hp1;go_wp2;go_ret2;rw [HF.out];exact ⟨_,[],rfl,A2a.nil _ _ _,rfl,HBX.out.trans (HB2.out.mono HBX.out.size)⟩
 ·have HF:=Hi (A6t (s:=s) hE);have HE:=Hi hE;clear hE;go_enter Tryz.func76,Tryz.ntmps76;go_wp2_with fail
  refine (A9h v l _ HM.out H.out).mono ?_;rintro e w1 ⟨rfl,hb⟩;have HB1:=Hi hb;have hne:=HE.out;clear hb;generalize A0a l=q at *;go_wp2;go_ret2;rw [HF.out];exact ⟨_,[],rfl,A2a.nil _ _ _,rfl,HBX.out.trans (HB1.out.mono HBX.out.size)⟩
theorem E3x (b off cap : Nat) (l : List Nod) (s : ByteArray) (w : World) (hpos : 0 < l.length) (hle : l.length ≤ cap) (hm : cap ≤ maxLen) (hc : A5p w b off l) (hok : ∀ i,i < l.length → (nk l i).Ok maxLen w) (h : A4a maxLen 12 (B6b maxLen) w [.slice (some ⟨b,off,none⟩) l.length cap] l) :
 Calls Tryz.prog 80 #[.slice (some ⟨b,off,none⟩) l.length cap,.string s] w (B4j 99 w (A9f l s)):=by
 obtain ⟨i0,hi,hz0,hz1,hz2⟩:=info_parts A9r;have HI:=Hi (And.intro hi (And.intro hz0 (And.intro hz1 hz2)));have H:=Hi h;have HC:=Hi hc;have HK:=Hi hok;unfold maxLen at hm;clear h hc hok hi hz0 hz1 hz2;by_cases hE:A0a l=0
 ·by_cases hF:A1a l s<l.length
  ·have HF:=Hi (A8w hE hF);have hfew:=(A2b hE).1;have HD:=Hi (B4c hE);have hss:s.size<=4000000000:=by
    have h1:=A2x ((A2b hE).2 _ hF);rw [B5f hF] at h1;omega
   have HPS:=Hi (fun k (hk:k<l.length)=>A2x ((A2b hE).2 k hk));have HE:=Hi hE;have hq:((((A1a l s:Nat):Int))==((l.length:Nat):Int))=false:=by rw [beq_eq_false_iff_ne];omega
   clear hE hF;go_enter Tryz.func80,Tryz.ntmps80;go_wp2_with fail
   refine (A0e _ l _ H.out).mono ?_;rintro e w1 ⟨rfl,hb⟩;rw [HE.out];have HB1:=Hi hb;have H1:=Hi (A8c H.out hb);clear hb;go_wp2_with fail
   refine (B5d _ l s _ H1.out).mono ?_;rintro e w2 ⟨rfl,rfl⟩;generalize A1a l s=q at *;have HCB:=Hi (HC.out.below HB1.out);go_wp2;go_loopw [7,9,23] (fun v _ i wr=>∃ k:Nat,k<=l.length/\i=.int .i64 k/\Hid (A2a 99 wr w.heap.size v ((l.take k).filter fun x => !B1v x s))/\Hid (Below w.heap.size w wr)) (fun _ _ i _=>l.length-(intOf i).toNat)
   case atStart=>exact ⟨0,by omega,rfl,Hi (A2a.nil _ _ _),HB1⟩
   case round =>
    obtain ⟨k,hk,rfl,HOW,HB⟩:=hrel;by_cases hlt:k<l.length
    ·obtain ⟨h0,h1,h2,h3,h4,h5,h6,h7,h8,h9,h10,h11⟩:=(HC.out.below HB.out) k hlt;have HKX:=Hi (HK.out k hlt);have HPX:=Hi (HPS.out k hlt);have HKE:=Hi (fun h=>D1j (p:=fun x => !B1v x s) hlt h);have HSK:=Hi (fun h=>D0j (p:=fun x => !B1v x s) hlt h);have hcl:((l.take k).filter fun x => !B1v x s).length<=k:=Nat.le_trans (List.length_filter_le _ _) (by rw [List.length_take];omega);generalize nk l k=x at *;generalize hcc:(l.take k).filter (fun x => !B1v x s)=c at *;clear hcc;have HBX:=Hi ((Below.refl wr.heap.size wr).alloc lr (A4h x));have HBZ:=Hi (A8t wr x 99);by_cases he:x.path=s
     ·have hsq:=B3n he;have hsn:(x.path.toList != s.toList)=false:=by rw [bne,hsq];rfl
      have HSK2:=Hi (HSK.out (by simp [remB_eq he]));clear he;go_wp2;go_roundw
      case rel=>exact ⟨k+1,by omega,by go_num,Hi (by rw [HSK2.out];exact HOW.out.below HBX.out),Hi (HB.out.alloc HB.out.size _)⟩
      case measure=>simp [intOf];omega
     ·have hsq:=A5w he;have hsn:(x.path.toList != s.toList)=true:=by rw [bne,hsq];rfl
      have HRB:=Hi (remB_ne he);have HCALL:=Hi (fun w:World=>E5w x.path s w (Nat.le_trans HPX.out (by omega)) hss);clear he;by_cases hp:B3c x.path s=true
      ·have HSK2:=Hi (HSK.out (by simp [HRB.out,hp]));rw [hp] at HCALL;clear hp;go_wp2_with (go_at_call 72;refine (HCALL.out _).mono ?_;rintro e w3 ⟨rfl,hb3⟩;have HB3:=Hi (HBX.out.trans (hb3.mono HBX.out.size));clear hb3)
       go_roundw
       case rel=>exact ⟨k+1,by omega,by go_num,Hi (by rw [HSK2.out];exact HOW.out.below HB3.out),Hi (HB.out.trans (HB3.out.mono HB.out.size))⟩
       case measure=>simp [intOf];omega
      ·have hpf:B3c x.path s=false:=by simpa using hp
       have HKE2:=Hi (HKE.out (by simp [HRB.out,hpf]));rw [hpf] at HCALL;clear hp hpf
       go_wp2_with (first
        | (go_at_call 72;refine (HCALL.out _).mono ?_;rintro e w3 ⟨rfl,hb3⟩;have HB3:=Hi (HBX.out.trans (hb3.mono HBX.out.size));obtain ⟨c0,c1,c2,c3,c4,c5,c6,c7,c8,c9,c10,c11⟩:=(HBZ.out.below hb3).zero;clear hb3)
        | (at_builtin;have HA:=Hi (HB3.out.trans ((Below.refl w3.heap.size w3).alloc lr (A4h x) |>.mono HB3.out.size));have HO3:=Hi (HOW.out.below HA.out);have HBA:=Hi (HB.out.trans (HA.out.mono HB.out.size));have HN3:=Hi (B9a HKX.out HBA.out HOW.out);refine A9b _ rfl (.tmp 38) (.tmp 40) 51 51 rfl _ _ rfl rfl (fun ty=>A8g _ 51 51 ty w.heap.size 99 i0 _ 12 144 Tryz.underlying51 HI.out.1 HI.out.2.1 HI.out.2.2.1 HI.out.2.2.2 rfl (by decide) _ _ c.length 1 _ _ HO3.out.1 (B9i w3 _ _ _ Tryz.underlying51 x) (by unfold maxLen;omega) (by omega) HBA.out.size) ?_;intro v2 w4 ho2 hg2 hv2;have HZ:=Hi (And.intro ho2 (And.intro hg2 hv2));clear ho2 hg2 hv2))
       have HO4:=Hi (HO3.out.app (m:=[x]) (fun y hy=>by rw [List.mem_singleton.1 hy];exact HN3.out) HZ.out.1 HZ.out.2.1 HZ.out.2.2.2);have HB4:=Hi (A7b HBA.out HZ.out.2.1 HO3.out.1 HBA.out.size);go_wp2;go_roundw
       case rel=>exact ⟨k+1,by omega,by go_num,Hi (by rw [HKE2.out];exact HO4.out),HB4⟩
       case measure=>simp [intOf];omega
    ·obtain rfl:k=l.length:=by omega
     rw [List.take_length] at HOW;have hcl:(l.filter fun x => !B1v x s).length<=l.length:=List.length_filter_le _ _;go_wp2_with fail
     refine (B9m _ (l.filter fun x => !B1v x s) _ (HOW.out.slice (by unfold maxLen;omega)) (by omega) (E1u _ HD.out)).mono ?_;rintro e w5 ⟨v5,c,rfl,ho,hcb,hb⟩;have HO5:=Hi (ho.mono HB.out.size);have HB5:=Hi (HB.out.trans (hb.mono HB.out.size));have HC5:=Hi hcb;clear ho hb hcb;go_wp2;go_ret2;rw [HF.out];exact ⟨_,c,rfl,HO5.out,HC5.out,HB5.out⟩
  ·have HF:=Hi (A5o hE hF);have hle':=A8y l s;have hq:((((A1a l s:Nat):Int))==((l.length:Nat):Int))=true:=by rw [beq_iff_eq];omega
   have HE:=Hi hE;clear hE hF hle';go_enter Tryz.func80,Tryz.ntmps80;go_wp2_with fail
   refine (A0e _ l _ H.out).mono ?_;rintro e w1 ⟨rfl,hb⟩;rw [HE.out];have HB1:=Hi hb;have H1:=Hi (A8c H.out hb);clear hb;go_wp2_with fail
   refine (B5d _ l s _ H1.out).mono ?_;rintro e w2 ⟨rfl,rfl⟩;generalize A1a l s=q at *;go_wp2;go_ret2;rw [HF.out];exact ⟨_,[],rfl,A2a.nil _ _ _,rfl,HB1.out⟩
 ·have HF:=Hi (A6t (s:=s) hE);have HE:=Hi hE;clear hE;go_enter Tryz.func80,Tryz.ntmps80;go_wp2_with fail
  refine (A0e _ l _ H.out).mono ?_;rintro e w1 ⟨rfl,hb⟩;have HB1:=Hi hb;have hne:=HE.out;clear hb;generalize A0a l=q at *;go_wp2;go_ret2;rw [HF.out];exact ⟨_,[],rfl,A2a.nil _ _ _,rfl,HB1.out⟩
theorem E2h (a : Option Addr) (cap : Nat) (s : ByteArray) (w : World) (h : A4a maxLen 12 (B6b maxLen) w [.slice a 0 cap] []) :
 Calls Tryz.prog 80 #[.slice a 0 cap,.string s] w (B4j 99 w (A9f [] s)):=by
 have HF:=Hi (A5o (l:=[]) (s:=s) A3g (by simp [A1a]));have HE:=Hi A3g;have H:=Hi h;clear h;go_enter Tryz.func80,Tryz.ntmps80;go_wp2_with fail
 refine (A0e _ [] _ H.out).mono ?_;rintro e w1 ⟨rfl,hb⟩;rw [HE.out];have HB1:=Hi hb;clear hb;go_wp2_with fail
 refine (C3o a cap s _).mono ?_;rintro e w2 ⟨rfl,rfl⟩;go_wp2;go_ret2;rw [HF.out];exact ⟨_,[],rfl,A2a.nil _ _ _,rfl,HB1.out⟩
theorem E7f (v : Value) (l : List Nod) (s : ByteArray) (w : World) (h : A4a maxLen 12 (B6b maxLen) w [v] l) :
 Calls Tryz.prog 80 #[v,.string s] w (B4j 99 w (A9f l s)):=by
 rcases A1g h with ⟨a,cap,rfl,rfl,_⟩|⟨b,off,cap,rfl,h1,h2,h3,h6,h4,h5⟩
 ·exact E2h a cap s w h
 ·exact E3x b off cap l s w h1 h2 h3 h4 h5 h
theorem C4p : (Tryz.prog.info? 3).map (fun i => (i.zero,i.size,i.bytes)) = some (some (.int .i64 0),1,8) := by kernel_rfl
theorem B8f {t : TypeId} {w : World} {B : Nat} {v : Value} {l : List Int} (h : A3s t w B v l) : ∃ p cap,v = .slice p l.length cap ∧ (0 < l.length → ∃ g,p = some ⟨g,0,none⟩) := by
 rcases h.form with ⟨rfl,rfl⟩|⟨g,cap,rfl,hgB,hgw,hcap,hcapm⟩
 ·exact ⟨none,0,rfl,fun h=>absurd h (by simp)⟩
 ·exact ⟨_,_,rfl,fun _=>⟨g,rfl⟩⟩
theorem F5j (tb : Nat) (x : Nod) (n : Int) (w : World) (h0 : x.same = 0) :
 Calls Tryz.prog 197 #[.pointer (some ⟨tb,0,none⟩),x.val,.int .i64 n] w fun e w'=>e=.returned (.int .i64 n)/\Below w.heap.size w w':=by
 have HB:=Hi ((Below.refl w.heap.size w).alloc lr (A4h x));have hq:(x.same==0)=true:=by rw [h0];rfl
 clear h0;go_enter Tryz.func197,Tryz.ntmps197;go_wp2;go_ret;exact ⟨rfl,HB.out⟩
theorem F6t (tb mb : Nat) (m : List (Int × Value)) (x : Nod) (n j : Int) (w : World) (h0 : x.same ≠ 0) (hc : w.cell? ⟨tb,0,none⟩ = some (.map (some mb))) (hm : A0i (fun n : Int => Value.int .i64 n) w mb m) (ha : A2v x.same m = some (.int .i64 j)) :
 Calls Tryz.prog 197 #[.pointer (some ⟨tb,0,none⟩),x.val,.int .i64 n] w fun e w'=>e=.returned (.int .i64 j)/\Below w.heap.size w w':=by
 have hb:=(Below.refl w.heap.size w).alloc lr (A4h x);have HB:=Hi hb;have htb:=World.block_lt_of_cell? w _ hc;have hct:=(hb.cell (p:=⟨tb,0,none⟩) htb).trans hc;have hlook:=fun q:Nat=>((hm.below hb hm.lt).below (A6a _ _ q) (hm.below hb hm.lt).lt).look_some A7q (t:=210) (k:=3) (e:=3) Tryz.underlying210 Tryz.underlying3 (a:=x.same) (v:=.int .i64 j) ha true
 simp only [if_true] at hlook;have hq:(x.same==0)=false:=by rw [beq_eq_false_iff_ne];exact h0
 clear h0 hm ha hb hc;go_enter Tryz.func197,Tryz.ntmps197;go_wp2;go_quiet (fail)
 go_wp2;go_ret;exact ⟨rfl,HB.out.trans (A6a _ _ _)⟩
theorem F5t (tb mb : Nat) (m : List (Int × Value)) (x : Nod) (n : Int) (w : World) (h0 : x.same ≠ 0) (hc : w.cell? ⟨tb,0,none⟩ = some (.map (some mb))) (hm : A0i (fun n : Int => Value.int .i64 n) w mb m) (ha : A2v x.same m = none) :
 Calls Tryz.prog 197 #[.pointer (some ⟨tb,0,none⟩),x.val,.int .i64 n] w fun e w'=>e=.returned (.int .i64 n)/\A0i (fun n:Int=>Value.int .i64 n) w' mb (A6f x.same (.int .i64 n) m)/\w.grownBy w' (some mb):=by
 have hb:=(Below.refl w.heap.size w).alloc lr (A4h x);have HB:=Hi hb;have htb:=World.block_lt_of_cell? w _ hc;have hct:=(hb.cell (p:=⟨tb,0,none⟩) htb).trans hc;have HM:=Hi (fun q:Nat=>((hm.below hb hm.lt).below (A6a _ _ q) (hm.below hb hm.lt).lt));have hlook:=fun q:Nat=>(HM.out q).look_none A7q (t:=210) (k:=3) (e:=3) Tryz.underlying210 Tryz.underlying3 (a:=x.same) ha (Tryz.zeroValue3 _) true
 simp only [if_true] at hlook;have hq:(x.same==0)=false:=by rw [beq_eq_false_iff_ne];exact h0
 clear h0 hm ha hb hc;go_enter Tryz.func197,Tryz.ntmps197;go_wp2;go_quiet (fail)
 go_wp2;clear hlook;have hct5:=((A6a (w.alloc (A4h x)).heap.size (w.alloc (A4h x)) nq).cell (p:=⟨tb,0,none⟩) (Nat.lt_of_lt_of_le htb HB.out.size)).trans hct;obtain ⟨_,_,b2,_⟩:=((A8t w x 99).below (A6a _ _ nq)).zero;have HB5:=Hi (HB.out.trans (A6a _ _ nq));have HM5:=Hi (HM.out nq);clear hct HM HB;generalize (w.alloc (A4h x)).drewN nq=w5 at *;generalize w.heap.size=bx at b2;obtain ⟨wp,hput,hmp,hgr⟩:=A0i.put (HM5.out.below (Below.refl _ _).drew HM5.out.lt) A7q (t:=210) (k:=3) (e:=3) Tryz.underlying210 Tryz.underlying3 x.same (.int .i64 n);have HMP:=Hi hmp;have HGR:=Hi (grown_below HB5.out.drew hgr);clear hmp hgr
 go_still_tail 7,(by kernel_rfl)
 go_wp2;go_ret;exact ⟨rfl,HMP.out,HGR.out⟩
end Go.Proofs.YtaffgndickdbiaaGreatDoor
