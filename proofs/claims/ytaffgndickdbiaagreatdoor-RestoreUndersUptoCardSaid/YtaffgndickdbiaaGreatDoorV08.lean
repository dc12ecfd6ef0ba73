/- A part of the proof. -/
import Derived.Test.YtaffgndickdbiaaGreatDoorV07
set_option linter.unusedVariables false
set_option linter.unusedSimpArgs false
set_option maxRecDepth 100000
set_option maxHeartbeats 2000000
namespace Go.Creel
open Go.RowKit
theorem D9v {B k q : Nat} {w wr : World} {s : ByteArray} (h : Below B w wr) (hk : B ≤ k) : Below B w (wr.iterAt k s q) := by
 refine ⟨h.os,h.tape,h.output,by simp [World.iterAt];exact h.size,fun b hb=>?_⟩;have:(wr.iterAt k s q).heap[b]?=wr.heap[b]?:=by
  simp only [World.iterAt];rw [Array.getElem?_setIfInBounds_ne (by omega)]
 rw [this];exact h.block b hb
def E0p (s : ByteArray) (p : Nat) : Prop := p ≤ s.size ∧ ∀ j,j < p → byt s j ≠ 61 ∧ byt s j ≠ 10
theorem E0p.next {s : ByteArray} {p : Nat} (h : E0p s p) (hp : p < s.size) (hx : byt s p ≠ 61 ∧ byt s p ≠ 10) : p < p + (Utf8.decode s p).2 ∧ E0p s (p + (Utf8.decode s p).2) := by
 have hn:1<=(Utf8.decode s p).2:=by
  by_cases h128:(s[p]'hp).toNat<128
  ·rw [decode_ascii s p hp h128];exact Nat.le_refl _
  ·exact (decode_high s p hp (by omega)).2
 have hsk:=D0v s p;generalize (Utf8.decode s p).2=n at *;refine ⟨by omega,?_,fun j hj=>?_⟩
 ·by_cases h1:n=1
  ·omega
  ·have:=(hsk (n-1) (by omega) (by omega)).1;omega
 ·rcases Nat.lt_trichotomy j p with e|e|e
  ·exact h.2 j e
  ·rw [e];exact hx
  ·obtain ⟨k,rfl⟩:∃ k,j=p+k:=⟨j-p,by omega⟩;have:=(hsk k (by omega) (by omega)).2;omega
theorem C4n : ∀ l : List UInt8,decide (0 ≤ Lib.indexAny l [61,10]) = l.any (fun b => b == 61 || b == 10)
 | []=>rfl
 | b::l=>by
   have ih:=C4n l;have hge:=Lib.indexAny_ge [61,10] l;unfold Lib.indexAny;have hc:([61,10]:List UInt8).contains b=(b==61||b==10):=by simp [List.contains,List.elem];cases (b==61)<;>cases (b==10)<;>rfl
   rw [hc,List.any_cons];cases hb:(b==61||b==10) with
   | true=>simp
   | false =>
     rw [Bool.false_or,<-ih];by_cases h1:Lib.indexAny l [61,10] = -1
     ·simp [h1]
     ·have:(Lib.indexAny l [61,10] == -1)=false:=by rw [beq_eq_false_iff_ne];exact h1
      rw [if_neg (by simp),if_neg (by rw [this];simp)];exact decide_eq_decide.2 ⟨fun h=>by omega,fun h=>by omega⟩
theorem E4v (s : ByteArray) : s.data.toList.any (fun b => b == 61 || b == 10) = A6x s := by
 unfold A6x A8k;induction s.data.toList with
 | nil=>rfl
 | cons b l ih=>simp only [List.any_cons,ih];cases b==61<;>cases b==10<;>simp
def A5c (r : Rec) : Int :=
 if r.key.size<1\/60<r.key.size\/500<r.value.size then 1 else if (A6x r.key||A8k r.value 0)=true then 3 else 0
def Rec.cells (r : Rec) : Array Go.Value := #[.string r.key,.string r.value]
theorem B3s {r : Rec} (h : r.key.size < 1 ∨ 60 < r.key.size ∨ 500 < r.value.size) : A5c r = 1 := by unfold A5c; rw [if_pos h]
theorem A7v {r : Rec} (h : ¬ (r.key.size < 1 ∨ 60 < r.key.size ∨ 500 < r.value.size)) (h2 : (A6x r.key || A8k r.value 0) = true) : A5c r = 3 := by unfold A5c; rw [if_neg h,if_pos h2]
theorem C7c {r : Rec} (h : ¬ (r.key.size < 1 ∨ 60 < r.key.size ∨ 500 < r.value.size)) (h2 : (A6x r.key || A8k r.value 0) = false) : A5c r = 0 := by unfold A5c; rw [if_neg h,if_neg (by rw [h2]; simp)]
theorem B1g {r : Rec} (h : A5c r = 0) : 1 ≤ r.key.size ∧ r.key.size ≤ 60 ∧ r.value.size ≤ 500 ∧ A6x r.key = false ∧ A8k r.value 0 = false := by
 by_cases h1:r.key.size<1\/60<r.key.size\/500<r.value.size
 ·rw [B3s h1] at h;cases h
 ·cases h2:(A6x r.key||A8k r.value 0) with
  | true=>rw [A7v h1 h2] at h;cases h
  | false=>simp only [Bool.or_eq_false_iff] at h2;exact ⟨by omega,by omega,by omega,h2.1,h2.2⟩
def C3p (L : Nat) : Nat := if L + 1 < 10 then L + 1 else if L + 2 < 100 then L + 2 else L + 3
theorem E6e (n : Nat) : (Lib.decDigits n).length = Lib.nDigits n := by
 rw [Lib.decDigits_eq];simp
theorem dlen1 {n : Nat} (h : n < 10) : (Lib.decDigits n).length = 1 := by rw [E6e]; exact Lib.nDigits_small h
theorem dlen2 {n : Nat} (h : 10 ≤ n) (h2 : n < 100) : (Lib.decDigits n).length = 2 := by rw [E6e]; exact Lib.nDigits_unique 1 n h h2
theorem dlen3 {n : Nat} (h : 100 ≤ n) (h2 : n < 1000) : (Lib.decDigits n).length = 3 := by rw [E6e]; exact Lib.nDigits_unique 2 n h h2
theorem B4m {n : Nat} (h : n < 1000) : ((Lib.decDigits n).length = 1 ∧ n < 10) ∨ ((Lib.decDigits n).length = 2 ∧ 10 ≤ n ∧ n < 100) ∨ ((Lib.decDigits n).length = 3 ∧ 100 ≤ n) := by
 by_cases h1:n<10
 ·exact .inl ⟨dlen1 h1,h1⟩
 ·by_cases h2:n<100
  ·exact .inr (.inl ⟨dlen2 (by omega) h2,by omega,h2⟩)
  ·exact .inr (.inr ⟨dlen3 (by omega) h,by omega⟩)
theorem C1i (L : Nat) : (L + 1 < 10 ∧ C3p L = L + 1) ∨ (9 ≤ L ∧ L + 2 < 100 ∧ C3p L = L + 2) ∨ (98 ≤ L ∧ C3p L = L + 3) := by
 unfold C3p;by_cases h:L+1<10
 ·exact .inl ⟨h,if_pos h⟩
 ·rw [if_neg h];by_cases h2:L+2<100
  ·exact .inr (.inl ⟨by omega,h2,if_pos h2⟩)
  ·exact .inr (.inr ⟨by omega,if_neg h2⟩)
theorem E8b (L : Nat) : L + 1 ≤ C3p L ∧ C3p L ≤ L + 3 := by have := C1i L; omega
theorem D6p {L : Nat} (h : L ≤ 900) : C3p L = L + (Lib.decDigits (C3p L)).length := by
 have hb:=C1i L;rcases B4m (show C3p L<1000 by omega) with ⟨e,h1⟩|⟨e,h1,h2⟩|⟨e,h1⟩<;>rw [e]<;>omega
theorem D1b {L n : Nat} (h : L ≤ 900) (hn : n < C3p L) : n ≠ L + (Lib.decDigits n).length := by
 have hb:=C1i L;rcases B4m (show n<1000 by omega) with ⟨e,h1⟩|⟨e,h1,h2⟩|⟨e,h1⟩<;>rw [e]<;>omega
theorem F3p (n : Nat) : Lib.itoa (n : Int) = Lib.decDigits n := by unfold Lib.itoa; rw [if_neg (by omega),Int.toNat_natCast]
def A5u (r : Rec) : ByteArray := (((ByteArray.mk #[32] ++ r.key) ++ ⟨#[61]⟩) ++ r.value) ++ ⟨#[10]⟩
def A8p (r : Rec) : ByteArray := ofL (Lib.decDigits (C3p (A5u r).size)) ++ A5u r
def B1a (r : Rec) : ByteArray × Int := if A5c r = 0 then (A8p r,0) else (ByteArray.empty,A5c r)
theorem B9r {r : Rec} (h : A5c r ≠ 0) : B1a r = (ByteArray.empty,A5c r) := by unfold B1a; rw [if_neg h]
theorem A9y {r : Rec} (h : A5c r = 0) : B1a r = (A8p r,0) := by unfold B1a; rw [if_pos h]
theorem B2s (r : Rec) : (A5u r).size = r.key.size + r.value.size + 3 := by
 unfold A5u;simp only [ByteArray.size_append];show 1+r.key.size+1+r.value.size+1=_
 omega
theorem B1x {r : Rec} : A5c r = 0 ∨ A5c r = 1 ∨ A5c r = 3 := by
 unfold A5c;by_cases h:r.key.size<1\/60<r.key.size\/500<r.value.size
 ·rw [if_pos h];exact .inr (.inl rfl)
 ·rw [if_neg h];split<;>simp
def B1y (step : Nat → Int) : Nat → Int
 | 0=>0
 | n+1=>if B1y step n=0 then step n else B1y step n
theorem C9v {step : Nat → Int} : ∀ {n : Nat},(∀ j,j < n → step j = 0) → B1y step n = 0
 | 0,_=>rfl
 | n+1,h=>by
   have ih:=C9v (n:=n) (fun j hj=>h j (by omega));simp only [B1y];rw [if_pos ih];exact h n (by omega)
theorem D3u {step : Nat → Int} {k : Nat} (hz : ∀ j,j < k → step j = 0) (hne : step k ≠ 0) : ∀ {n : Nat},k < n → B1y step n = step k
 | 0,h=>absurd h (by omega)
 | n+1,h=>by
   simp only [B1y];by_cases e:k=n
   ·subst e;rw [if_pos (C9v hz)]
   ·have ih:=D3u hz hne (n:=n) (by omega);rw [if_neg (by rw [ih];exact hne),ih]
theorem D0d {step : Nat → Int} : ∀ {n : Nat},B1y step n = 0 → ∀ j,j < n → step j = 0
 | 0,_,j,hj=>absurd hj (by omega)
 | n+1,h,j,hj=>by
   simp only [B1y] at h;by_cases e:B1y step n=0
   ·rw [if_pos e] at h;by_cases ej:j=n
    ·rw [ej];exact h
    ·exact D0d e j (by omega)
   ·rw [if_neg e] at h;exact absurd h e
def leS (a b : ByteArray) : Bool := Op.bytesLess a.toList b.toList || a.toList == b.toList
theorem leS_a {a b : ByteArray} (h : Op.bytesLess a.toList b.toList = true) : leS a b = true := by unfold leS; rw [h]; rfl
theorem leS_b {a b : ByteArray} (h : (a.toList == b.toList) = true) : leS a b = true := by unfold leS; rw [h]; simp
theorem leS_c {a b : ByteArray} (h : Op.bytesLess a.toList b.toList = false) (h2 : (a.toList == b.toList) = false) : leS a b = false := by unfold leS; rw [h,h2]; rfl
theorem F8d {a : ByteArray} (h : 1 ≤ a.size) : Op.bytesLess a.toList [] = false ∧ a.toList.isEmpty = false := by
 have hl:a.toList.length=a.size:=by rw [Lib.toList_data];exact (Lib.size_eq a).symm
 cases hh:a.toList with
 | nil=>rw [hh] at hl;simp at hl;omega
 | cons x r=>exact ⟨rfl,rfl⟩
def B9j (l : List Rec) (k : Nat) : Int :=
 if A5c (rk l k)≠0 then A5c (rk l k) else if 0<k/\leS (rk l k).key (rk l (k-1)).key=true then 6 else 0
def A3e (l : List Rec) : Int := if 12 < l.length then 1 else B1y (B9j l) l.length
def A6n (l : List Rec) : List UInt8 := (l.map fun r => (A8p r).data.toList).flatten
def A4i (l : List Rec) : ByteArray × Int := if A3e l = 0 then (ofL (A6n l),0) else (ByteArray.empty,A3e l)
theorem B4s {l : List Rec} (h : A3e l ≠ 0) : A4i l = (ByteArray.empty,A3e l) := by unfold A4i; rw [if_neg h]
theorem B5z {l : List Rec} (h : A3e l = 0) : A4i l = (ofL (A6n l),0) := by unfold A4i; rw [if_pos h]
theorem B7n {l : List Rec} (h : 12 < l.length) : A3e l = 1 := by unfold A3e; rw [if_pos h]
theorem C9s {l : List Rec} {k : Nat} {e : Int} (hl : l.length ≤ 12) (hk : k < l.length) (hz : ∀ j,j < k → B9j l j = 0) (he : B9j l k = e) (hne : e ≠ 0) : A3e l = e := by
 unfold A3e;rw [if_neg (by omega),D3u hz (by rw [he];exact hne) hk,he]
theorem C8s {l : List Rec} (hl : l.length ≤ 12) (hz : ∀ j,j < l.length → B9j l j = 0) : A3e l = 0 := by
 unfold A3e;rw [if_neg (by omega),C9v hz]
theorem A3p {l : List Rec} (h : A3e l = 0) : l.length ≤ 12 ∧ ∀ k,k < l.length → B9j l k = 0 := by
 have hl:l.length<=12:=by
  rcases Nat.lt_or_ge 12 l.length with e|e
  ·rw [B7n e] at h;cases h
  ·exact e
 refine ⟨hl,?_⟩;unfold A3e at h;rw [if_neg (by omega)] at h;exact D0d h
theorem D4o {l : List Rec} {k : Nat} {e : Int} (he : A5c (rk l k) = e) (h : e ≠ 0) : B9j l k = e := by unfold B9j; rw [if_pos (by rw [he]; exact h),he]
theorem E3i {l : List Rec} {k : Nat} (h : A5c (rk l k) = 0) (h0 : 0 < k) (h1 : leS (rk l k).key (rk l (k - 1)).key = true) : B9j l k = 6 := by unfold B9j; rw [if_neg (by rw [h]; simp),if_pos ⟨h0,h1⟩]
theorem E2i {l : List Rec} {k : Nat} (h : A5c (rk l k) = 0) (h0 : 0 < k → leS (rk l k).key (rk l (k - 1)).key = false) : B9j l k = 0 := by
 unfold B9j;rw [if_neg (by rw [h];simp),if_neg];rintro ⟨a,b⟩;rw [h0 a] at b;cases b
theorem C1h {l : List Rec} {k : Nat} (h : B9j l k = 0) : A5c (rk l k) = 0 := by
 unfold B9j at h;by_cases e:A5c (rk l k)=0
 ·exact e
 ·rw [if_pos e] at h;exact h
theorem rk_drop {l : List Rec} {k : Nat} (h : k < l.length) : l.drop k = rk l k :: l.drop (k + 1) := by
 rw [List.drop_eq_getElem_cons h];simp [rk,List.getD_eq_getElem?_getD,List.getElem?_eq_getElem h]
theorem F4a {l : List Rec} {k : Nat} (h : k < l.length) : l.take (k + 1) = l.take k ++ [rk l k] := by
 rw [List.take_add_one,List.getElem?_eq_getElem h];simp [rk,List.getD_eq_getElem?_getD,List.getElem?_eq_getElem h]
theorem D0h {l : List Rec} {k : Nat} (h : k < l.length) : A6n (l.take (k + 1)) = A6n (l.take k) ++ (A8p (rk l k)).data.toList := by
 rw [F4a h];simp [A6n]
theorem D1h {l : List Rec} {k : Nat} (h : k < l.length) : ofL (A6n (l.drop k)) = A8p (rk l k) ++ ofL (A6n (l.drop (k + 1))) := by
 rw [rk_drop h];apply A0h;simp [A6n,ofL]
theorem B0s {r : Rec} (h : A5c r = 0) : (A8p r).size ≤ 566 := by
 obtain ⟨_,h1,h2,_⟩:=B1g h;have ht:=B2s r;have hb:=E8b (A5u r).size;have:=B4m (n:=C3p (A5u r).size) (by omega);unfold A8p;rw [ByteArray.size_append,A7a];omega
theorem C0t {l : List Rec} (h : ∀ r ∈ l,A5c r = 0) : (A6n l).length ≤ 566 * l.length := by
 induction l with
 | nil=>simp [A6n]
 | cons a t ih =>
   have h1:=B0s (h a (by simp));have h2:=ih (fun r hr=>h r (by simp [hr]));have:(A8p a).data.toList.length=(A8p a).size:=(Lib.size_eq _).symm;simp only [A6n,List.map_cons,List.flatten_cons,List.length_append,List.length_cons] at h2 ⊢;omega
theorem F4b {l : List Rec} (h : A3e l = 0) : ∀ r ∈ l,A5c r = 0 := by
 intro r hr;obtain ⟨k,hk,rfl⟩:=List.getElem_of_mem hr;have:=C1h ((A3p h).2 k hk);simpa [rk,List.getD_eq_getElem?_getD,List.getElem?_eq_getElem hk] using this
end Go.Creel
namespace Go.Proofs.YtaffgndickdbiaaGreatDoor
open Go.Creel Go.RowKit
theorem F9g {x : Nat} (hx : x < 128) : decide (0 ≤ firstIdx ⟨#[61,10]⟩ ((x : Int).toNat.toUInt8)) = (decide (x = 61) || decide (x = 10)) := by
 rw [B5g];unfold A8k;have e:((x:Int).toNat.toUInt8).toNat=x:=by simp;omega
 have key:∀ c:UInt8,(c==(x:Int).toNat.toUInt8)=decide (x=c.toNat):=by
  intro c;rw [Bool.eq_iff_iff,beq_iff_eq,decide_eq_true_eq];constructor
  ·intro h;rw [h,e]
  ·intro h;exact UInt8.toNat_inj.1 (by rw [e];exact h.symm)
 simp only [List.any_cons,List.any_nil,key,Bool.or_false];rfl
theorem E8v (n : Int) (w : World) :
 Calls Tryz.prog 237 #[.int .i64 n] w fun e w'=>e=.returned (.bool (decide (8<n)))/\w=w':=by
 go_enter Tryz.func237,Tryz.ntmps237;go_wp2;go_ret;exact ⟨rfl,rfl⟩
theorem C6z (s : ByteArray) (w : World) (h8 : s.size ≤ 8) :
 Calls Tryz.prog 222 #[.string s,.string ⟨#[61,10]⟩] w (F1w w (A6x s)):=by
 have h8z:decide ((8:Int)<(s.size:Int))=false:=decide_eq_false (by omega);have HYES:=Hi (fun k hk e=>E0t (s:=s) (k:=k) hk e);have HNO:=Hi (F2e (s:=s));go_enter Tryz.func222,Tryz.ntmps222;go_wp2_with (go_at_call 237;refine (E8v _ _).mono ?_;rintro e w' ⟨rfl,rfl⟩;rw [h8z])
 go_loopg [9,10] s.size (fun g _ _ wx=>∃ p:Nat,s.size<=p+g/\Hid (wx.heap[w.heap.size]?=some (.stringIter s p))/\Hid (Below w.heap.size w wx)/\Hid (E0p s p))
 case atStart=>exact ⟨0,by omega,Hi (World.iter_heap w s 0),Hi ((Below.refl _ _).alloc lr _),Hi ⟨by omega,fun j hj=>absurd hj (by omega)⟩⟩
 case round =>
  obtain ⟨p,hpg,HIT,HB,HS⟩:=hrel;by_cases hlt:p<s.size
  ·obtain ⟨g,rfl⟩:∃ g,gk=g+1:=⟨gk-1,by omega⟩;have hnx:∀ ty,(Instr.next (.pointer (some ⟨w.heap.size,0,none⟩)) true ty).run Tryz.prog wr=_:=fun ty=>Lib.run_next_any_at wr w.heap.size s p ty HIT.out hlt
   have HNX:=Hi (fun hx=>HS.out.next hlt hx);have HHIT:=Hi (fun e=>HYES.out p hlt e);have HI2:=Hi (fun q=>Lib.iterAt_heap wr w.heap.size s p q HIT.out);have HB2:=Hi (fun q=>D9v (q:=q) (s:=s) HB.out lr);by_cases h128:(s[p]'hlt).toNat<128
   ·have hdec:=decode_ascii s p hlt h128;have hby:=A4f s p hlt;rw [hdec] at hnx HNX;rw [hby] at hnx h128;have HR:=Hi (fun w=>F8r ((byt s p:Nat):Int) w (by omega) (by omega));have HAI:=Hi (F9g h128);clear hdec hby HIT;generalize byt s p=x at *;generalize firstIdx ⟨#[61,10]⟩ ((x:Int).toNat.toUInt8)=m at *;simp only at hnx HNX;go_wp2_with fail
    refine (HR.out _).mono ?_;rintro e w3 ⟨rfl,hb⟩;have HB3:=Hi ((HB2.out _).trans (hb.mono (HB2.out _).size));have HI3:=Hi ((hb.block w.heap.size (ltO (HI2.out (p+1)))).trans (HI2.out (p+1)));clear hb hnx;by_cases hx:x=61\/x=10
    ·have HK:=Hi (HHIT.out hx);have hd:decide (0<=m)=true:=by rw [HAI.out];simpa using hx
     clear hx;go_wp2;go_ret;exact ⟨_,rfl,by rw [HK.out];simp,HB3.out⟩
    ·have HN:=Hi (HNX.out ⟨fun e=>hx (.inl e),fun e=>hx (.inr e)⟩);have hd:decide (0<=m)=false:=by rw [HAI.out];simpa using hx
     clear hx;go_wp2
     go_roundg g
     case measure=>omega
     case rel=>exact ⟨p+1,by omega,HI3,HB3,Hi HN.out.2⟩
   ·obtain ⟨hr1,hr2⟩:=decode_high s p hlt (by omega);have hr3:=decode_le s p;have hby:=A4f s p hlt;have HN:=Hi (HNX.out (by rw [<-hby];omega));have HR:=Hi (fun w=>F2i (((Utf8.decode s p).1:Nat):Int) w (by omega) (by omega));clear hby HIT HNX HHIT;generalize Utf8.decode s p=d at *;obtain ⟨d1,d2⟩:=d;simp only at hnx HN hr1 hr2 hr3 HR;have hpd:s.size<=p+d2+g:=by omega
    go_wp2_with fail
    refine (HR.out _).mono ?_;rintro e w3 ⟨rfl,hb⟩;have HB3:=Hi ((HB2.out _).trans (hb.mono (HB2.out _).size));have HI3:=Hi ((hb.block w.heap.size (ltO (HI2.out (p+d2)))).trans (HI2.out (p+d2)));clear hb hnx;go_wp2
    go_roundg g
    case measure=>omega
    case rel=>exact ⟨p+d2,by omega,HI3,HB3,Hi HN.out.2⟩
  ·have HK:=Hi (HNO.out (fun k hk=>HS.out.2 k (by omega)));have hnx:∀ ty,(Instr.next (.pointer (some ⟨w.heap.size,0,none⟩)) true ty).run Tryz.prog wr=_:=fun ty=>Lib.run_next_end_at wr w.heap.size s p ty HIT.out hlt
   go_wp2;go_ret;exact ⟨_,rfl,by rw [HK.out];rfl,HB.out⟩
theorem E1f : ∀ (j : Nat) b,(ByteArray.mk #[61,10]).data.toList[j]? = some b → b.toNat < 128 := by
 intro j b h;have:j=0\/j=1\/2<=j:=by omega
 rcases this with rfl|rfl|hj
 ·cases h;decide
 ·cases h;decide
 ·have:(ByteArray.mk #[61,10]).data.toList[j]?=none:=List.getElem?_eq_none (by show 2<=j;exact hj);rw [this] at h;cases h
theorem D9x (s : ByteArray) (w : World) (hs : s.size ≤ 4000000000) :
 Calls Tryz.prog 222 #[.string s,.string ⟨#[61,10]⟩] w (F1w w (A6x s)):=by
 by_cases h8:s.size<=8
 ·exact C6z s w h8
 ·refine (Tryz.strings_IndexAny_long (fun w=>by kernel_rfl) s ⟨#[61,10]⟩ w (show 2<=2 by omega) (by omega) (by omega) (show 2<4294967281 by omega) E1f).mono ?_;rintro e w' ⟨rfl,rfl⟩;exact ⟨_,rfl,(C4n _).trans (E4v s),((Below.refl _ _).alloc lr _).alloc (by simp) _⟩
theorem B5u (s : ByteArray) (w : World) (hs : s.size ≤ 4000000000) :
 Calls Tryz.prog 200 #[.string s,.string ⟨#[61,10]⟩] w fun e w'=>e=.returned (.bool (A6x s))/\Below w.heap.size w w':=by
 have HI:=Hi (D9x s w hs);go_enter Tryz.func200,Tryz.ntmps200;go_wp2_with fail
 refine HI.out.mono ?_;rintro e w2 ⟨m,rfl,hm,hb⟩;have HB:=Hi hb;clear hb;go_wp2;go_ret;exact ⟨rfl,HB.out⟩
theorem D2k (r : Rec) (w : World) (hk : r.key.size ≤ maxLen) (hv : r.value.size ≤ maxLen) :
 Calls Tryz.prog 149 #[.agg r.cells] w fun e w'=>e=.returned (.int .i64 (A5c r))/\Below w.heap.size w w':=by
 obtain ⟨key,value⟩:=r;unfold maxLen at hk hv;show Calls Tryz.prog 149 #[.agg #[.string key,.string value]] w _
 simp only at hk hv;by_cases h1:key.size<1\/60<key.size\/500<value.size
 ·have HF:=Hi (B3s (r:=⟨key,value⟩) h1);by_cases ha:key.size<1
  ·clear h1;go_enter Tryz.func149,Tryz.ntmps149;go_wp2;go_ret;rw [HF.out];exact ⟨rfl,(Below.refl _ _).alloc lr _⟩
  ·by_cases hb:60<key.size
   ·clear h1;go_enter Tryz.func149,Tryz.ntmps149;go_wp2;go_ret;rw [HF.out];exact ⟨rfl,(Below.refl _ _).alloc lr _⟩
   ·have hc:500<value.size:=by omega
    clear h1;go_enter Tryz.func149,Tryz.ntmps149;go_wp2;go_ret;rw [HF.out];exact ⟨rfl,(Below.refl _ _).alloc lr _⟩
 ·have hk1:¬ key.size<1:=by omega
  have hk2:¬ 60<key.size:=by omega
  have hv2:¬ 500<value.size:=by omega
  have hix:=B5g value 0;cases hb1:A6x key with
  | true =>
    have HF:=Hi (A7v (r:=⟨key,value⟩) h1 (by simp [hb1]));have HA:=Hi (fun W=>by have:=B5u key W (by omega);rw [hb1] at this;exact this);clear h1 hix hb1;go_enter Tryz.func149,Tryz.ntmps149;go_wp2_with fail
    refine (HA.out _).mono ?_;rintro e w1 ⟨rfl,hb⟩;have HB:=Hi (((Below.refl _ _).alloc lr _).trans (hb.mono (by simp)));clear hb;go_wp2;go_ret;rw [HF.out];exact ⟨rfl,HB.out⟩
  | false =>
    have HA:=Hi (fun W=>by have:=B5u key W (by omega);rw [hb1] at this;exact this);cases hh:A8k value 0 with
    | true =>
      have HF:=Hi (A7v (r:=⟨key,value⟩) h1 (by simp [hb1,hh]));rw [hh] at hix;clear h1 hb1 hh;go_enter Tryz.func149,Tryz.ntmps149;go_wp2_with fail
      refine (HA.out _).mono ?_;rintro e w1 ⟨rfl,hb⟩;have HB:=Hi (((Below.refl _ _).alloc lr _).trans (hb.mono (by simp)));obtain ⟨hc,_⟩:=C0b hb;clear hb;go_wp2_with (go_at_call 84;refine (A6b _ _ _).mono ?_;rintro e w' ⟨rfl,rfl⟩)
      go_ret;rw [HF.out];exact ⟨rfl,HB.out⟩
    | false =>
      have HF:=Hi (C7c (r:=⟨key,value⟩) h1 (by simp [hb1,hh]));rw [hh] at hix;clear h1 hb1 hh;go_enter Tryz.func149,Tryz.ntmps149;go_wp2_with fail
      refine (HA.out _).mono ?_;rintro e w1 ⟨rfl,hb⟩;have HB:=Hi (((Below.refl _ _).alloc lr _).trans (hb.mono (by simp)));obtain ⟨hc,_⟩:=C0b hb;clear hb;go_wp2_with (go_at_call 84;refine (A6b _ _ _).mono ?_;rintro e w' ⟨rfl,rfl⟩)
      go_ret;rw [HF.out];exact ⟨rfl,HB.out⟩
theorem E6o (r : Rec) (w : World) (hk : r.key.size ≤ maxLen) (hv : r.value.size ≤ maxLen) :
 Calls Tryz.prog 159 #[.agg r.cells] w fun e w'=>e=.returned (.int .i64 (A5c r))/\Below w.heap.size w w':=by
 obtain ⟨key,value⟩:=r;have hk':=hk;have hv':=hv;unfold maxLen at hk hv;show Calls Tryz.prog 159 #[.agg #[.string key,.string value]] w _
 simp only at hk hv hk' hv';have HA:=Hi (fun W=>A9m key 61 61 rfl W hk');have HA2:=Hi (fun W=>A9m key 10 10 rfl W hk');have HA3:=Hi (fun W=>A9m value 0 0 rfl W hv');clear hk' hv';by_cases h1:key.size<1\/60<key.size\/500<value.size
 ·have HF:=Hi (B3s (r:=⟨key,value⟩) h1);by_cases ha:key.size=0
  ·have he:=A8h ha;clear h1;go_enter Tryz.func159,Tryz.ntmps159;go_wp2;go_ret;rw [HF.out];exact ⟨rfl,(Below.refl _ _).alloc lr _⟩
  ·have he:=A9e ha;by_cases hb:60<key.size
   ·clear h1;go_enter Tryz.func159,Tryz.ntmps159;go_wp2;go_ret;rw [HF.out];exact ⟨rfl,(Below.refl _ _).alloc lr _⟩
   ·have hc:500<value.size:=by omega
    clear h1;go_enter Tryz.func159,Tryz.ntmps159;go_wp2;go_ret;rw [HF.out];exact ⟨rfl,(Below.refl _ _).alloc lr _⟩
 ·have he:=A9e (a:=key) (by omega);have hk2:¬ 60<key.size:=by omega
  have hv2:¬ 500<value.size:=by omega
  cases ha:A8k key 61 with
  | true =>
    have HF:=Hi (A7v (r:=⟨key,value⟩) h1 (by simp [A6x,ha]));have HH:=Hi ha;clear h1 ha;go_enter Tryz.func159,Tryz.ntmps159;go_wp2_with (go_at_call 105;refine (HA.out _).mono ?_;rintro e w' ⟨rfl,rfl⟩;rw [HH.out])
    go_ret;rw [HF.out];exact ⟨rfl,(Below.refl _ _).alloc lr _⟩
  | false =>
    cases hb:A8k key 10 with
    | true =>
      have HF:=Hi (A7v (r:=⟨key,value⟩) h1 (by simp [A6x,ha,hb]));have HH:=Hi ha;have HH2:=Hi hb;clear h1 ha hb;go_enter Tryz.func159,Tryz.ntmps159;go_wp2_with fail
      refine (HA.out _).mono ?_;rintro e w' ⟨rfl,rfl⟩;rw [HH.out];go_wp2_with fail
      refine (HA2.out _).mono ?_;rintro e w' ⟨rfl,rfl⟩;rw [HH2.out];go_wp2;go_ret;rw [HF.out];exact ⟨rfl,(Below.refl _ _).alloc lr _⟩
    | false =>
      cases hc:A8k value 0 with
      | true =>
        have HF:=Hi (A7v (r:=⟨key,value⟩) h1 (by simp [A6x,ha,hb,hc]));have HH:=Hi ha;have HH2:=Hi hb;have HH3:=Hi hc;clear h1 ha hb hc;go_enter Tryz.func159,Tryz.ntmps159;go_wp2_with fail
        refine (HA.out _).mono ?_;rintro e w' ⟨rfl,rfl⟩;rw [HH.out];go_wp2_with fail
        refine (HA2.out _).mono ?_;rintro e w' ⟨rfl,rfl⟩;rw [HH2.out];go_wp2_with fail
        refine (HA3.out _).mono ?_;rintro e w' ⟨rfl,rfl⟩;rw [HH3.out];go_wp2;go_ret;rw [HF.out];exact ⟨rfl,(Below.refl _ _).alloc lr _⟩
      | false =>
        have HF:=Hi (C7c (r:=⟨key,value⟩) h1 (by simp [A6x,ha,hb,hc]));have HH:=Hi ha;have HH2:=Hi hb;have HH3:=Hi hc;clear h1 ha hb hc;go_enter Tryz.func159,Tryz.ntmps159;go_wp2_with fail
        refine (HA.out _).mono ?_;rintro e w' ⟨rfl,rfl⟩;rw [HH.out];go_wp2_with fail
        refine (HA2.out _).mono ?_;rintro e w' ⟨rfl,rfl⟩;rw [HH2.out];go_wp2_with fail
        refine (HA3.out _).mono ?_;rintro e w' ⟨rfl,rfl⟩;rw [HH3.out];go_wp2;go_ret;rw [HF.out];exact ⟨rfl,(Below.refl _ _).alloc lr _⟩
theorem C0y (n : Nat) (w : World) (hn : n ≤ 1000000) (hT : A7m w) :
 Calls Tryz.prog 104 #[.int .i64 n] w fun e w'=>e=.returned (.string (ofL (Lib.decDigits n)))/\Below w.heap.size w w':=by
 have:=A5r n w (by constructor<;>omega) hT;rw [F3p] at this;exact this
theorem E4o (r : Rec) (w : World) (hk : r.key.size ≤ maxLen) (hv : r.value.size ≤ maxLen) (hT : A7m w) :
 Calls Tryz.prog 92 #[.agg r.cells] w fun e w'=>e=.returned (.tuple #[.string (B1a r).1,.int .i64 (B1a r).2])/\Below w.heap.size w w':=by
 have HC:=Hi (fun W=>D2k r W hk hv);have HT:=Hi hT;clear hT;have hs:=B1x (r:=r);by_cases h0:A5c r=0
 ·obtain ⟨_,hk1,hv1,_,_⟩:=B1g h0;have HF:=Hi (A9y h0);have hts:=B2s r;rw [h0] at HC;clear h0 hs hk hv;obtain ⟨key,value⟩:=r;have HTX:=Hi (show A8p ⟨key,value⟩=ofL (Lib.decDigits (C3p (A5u ⟨key,value⟩).size))++A5u ⟨key,value⟩ from rfl);have htt:(((ByteArray.mk #[32]++key)++⟨#[61]⟩)++value)++⟨#[10]⟩=A5u ⟨key,value⟩:=rfl;show Calls Tryz.prog 92 #[.agg #[.string key,.string value]] w _
  simp only [Rec.cells] at HC hts hk1 hv1;go_enter Tryz.func92,Tryz.ntmps92;go_wp2_with fail
  refine (HC.out _).mono ?_;rintro e w1 ⟨rfl,hb⟩;have HB:=Hi (((Below.refl _ _).alloc lr _).trans (hb.mono (by simp)));obtain ⟨hc,_⟩:=C0b hb;clear hb;go_wp2;generalize A5u ⟨key,value⟩=t at *;have HFI:=Hi (D6p (L:=t.size) (by omega));have HFS:=Hi (fun n=>D1b (L:=t.size) (n:=n) (by omega));have HBD:=Hi (E8b t.size);go_loopw [6] (fun v wr=>∃ n:Nat,v=.int .i64 n/\t.size+1<=n/\n<=C3p t.size/\Hid (Below w.heap.size w wr)) (fun v _=>1000-(intOf v).toNat)
  case atStart=>exact ⟨t.size+1,by simp [hts],by omega,by have:=HBD.out;omega,HB⟩
  case round =>
   obtain ⟨n,rfl,hn1,hn2,HBR⟩:=hrel;have hbd:=HBD.out;have HI:=Hi (C0y n wr (by omega) (HT.out.below HBR.out));have hsz:=A7a (Lib.decDigits n);have hdl:(Lib.decDigits n).length<=3:=by have:=B4m (n:=n) (by omega);omega
   have hts2:t.size=key.size+value.size+3:=hts;by_cases hd:n=t.size+(Lib.decDigits n).length
   ·have hn:n=C3p t.size:=by
     rcases Nat.lt_or_ge n (C3p t.size) with h|h
     ·exact absurd hd (HFS.out n h)
     ·omega
    have HR:=Hi (show B1a ⟨key,value⟩=(ofL (Lib.decDigits n)++t,0) by rw [HF.out,HTX.out,hn]);have HI2:=Hi (fun (m:Int) W (hm:m=n) hW=>by have:=C0y n W (by omega) hW;rw [<-hm] at this;exact this);generalize ofL (Lib.decDigits n)=x at *;generalize (Lib.decDigits n).length=d at *;clear hn HFI HFS HTX HF htt;go_wp2_with fail
    refine (HI2.out _ _ (by omega) (HT.out.below HBR.out)).mono ?_;rintro e w3 ⟨rfl,hb⟩;have HB3:=Hi (HBR.out.trans (hb.mono HBR.out.size));clear hb;go_wp2_with fail
    refine (HI2.out _ _ (by omega) (HT.out.below HB3.out)).mono ?_;rintro e w4 ⟨rfl,hb⟩;have HB4:=Hi (HB3.out.trans (hb.mono HB3.out.size));clear hb;go_wp2;go_ret2;exact ⟨A1c HR.out,HB4.out⟩
   ·have hn:n<C3p t.size:=by
     have hne:n≠C3p t.size:=by intro e;exact hd (by rw [e];exact HFI.out)
     omega
    generalize ofL (Lib.decDigits n)=x at *;generalize (Lib.decDigits n).length=d at *;have hd2:¬ n=key.size+value.size+3+d:=by omega
    clear HFI HFS HTX HF htt;go_wp2_with fail
    refine HI.out.mono ?_;rintro e w3 ⟨rfl,hb⟩;have HB3:=Hi (HBR.out.trans (hb.mono HBR.out.size));clear hb;go_wp2;go_roundw
    ·exact ⟨n+1,by simp,by omega,by omega,HB3⟩
    ·simp only [intOf];omega
 ·have HF:=Hi (B9r h0);clear hk hv;generalize A5c r=f at *;obtain ⟨key,value⟩:=r;show Calls Tryz.prog 92 #[.agg #[.string key,.string value]] w _
  simp only [Rec.cells] at HC;go_enter Tryz.func92,Tryz.ntmps92;go_wp2_with fail
  refine (HC.out _).mono ?_;rintro e w1 ⟨rfl,hb⟩;have HB:=Hi (((Below.refl _ _).alloc lr _).trans (hb.mono (by simp)));clear hb;go_wp2;go_ret2;exact ⟨A1c HF.out,HB.out⟩
end Go.Proofs.YtaffgndickdbiaaGreatDoor
