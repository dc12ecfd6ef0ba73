/- A part of the proof. -/
import Derived.Lib.Atoi
import Derived.Lib.SlTrimSet
import Derived.Test.YtaffgndickdbiaaGreatDoorV09
import Derived.Laws.ResultCell
set_option linter.unusedVariables false
set_option linter.unusedSimpArgs false
set_option maxRecDepth 100000
set_option maxHeartbeats 400000
namespace Go.Creel
open Go.RowKit
def B0z (s : ByteArray) (c : Nat) (a b i : Nat) : Prop := a ≤ i ∧ i < b ∧ byt s i = c ∧ ∀ j,a ≤ j → j < i → byt s j ≠ c
theorem B0z.one {s : ByteArray} {c a b i j : Nat} (h : B0z s c a b i) (k : B0z s c a b j) : i = j := by
 obtain ⟨h1,h2,h3,h4⟩:=h;obtain ⟨k1,k2,k3,k4⟩:=k;rcases Nat.lt_trichotomy i j with e|e|e
 ·exact absurd h3 (k4 i h1 e)
 ·exact e
 ·exact absurd k3 (h4 j k1 e)
def A7w (s : ByteArray) : Nat → Nat
 | 0=>0
 | k+1=>10*A7w s k+(byt s k-48)
def C5k (s : ByteArray) (k : Nat) : Prop := ∀ j,j < k → 48 ≤ byt s j ∧ byt s j ≤ 57
def A2s (s : ByteArray) (k : Nat) : Prop := 1 ≤ k ∧ k ≤ 4 ∧ k < s.size ∧ C5k s k ∧ byt s 0 ≠ 48 ∧ byt s k = 32
theorem A2s.one {s : ByteArray} {k m : Nat} (h : A2s s k) (g : A2s s m) : k = m := by
 obtain ⟨_,_,_,h4,_,h6⟩:=h;obtain ⟨_,_,_,g4,_,g6⟩:=g;rcases Nat.lt_trichotomy k m with e|e|e
 ·have:=g4 k e;omega
 ·exact e
 ·have:=h4 m e;omega
theorem D7z {s : ByteArray} {k : Nat} (h : C5k s k) : A7w s k < 10 ^ k := by
 induction k with
 | zero=>simp [A7w]
 | succ k ih =>
   have h1:=ih (fun j hj=>h j (by omega));have h2:=h k (by omega);simp only [A7w,Nat.pow_succ];omega
def C0i (e : Int) : Rec × ByteArray × Int := (⟨ByteArray.empty,ByteArray.empty⟩,ByteArray.empty,e)
def recAt (s : ByteArray) (k n i : Nat) : Rec × ByteArray × Int :=
 if A5c ⟨s.extract (k+1) i,s.extract (i+1) (n-1)⟩≠0 then C0i (A5c ⟨s.extract (k+1) i,s.extract (i+1) (n-1)⟩)
 else if A8p ⟨s.extract (k+1) i,s.extract (i+1) (n-1)⟩=s.extract 0 n then (⟨s.extract (k+1) i,s.extract (i+1) (n-1)⟩,s.extract n s.size,0) else C0i 3
def C4o (s : ByteArray) (x : Rec × ByteArray × Int) : Prop :=
 ((¬ ∃ k,A2s s k)/\x=C0i 3)\/∃ k,A2s s k ∧
   ((s.size<A7w s k/\x=C0i 7) ∨
     (A7w s k<=s.size/\(A7w s k<k+2\/byt s (A7w s k-1)≠10)/\x=C0i 3) ∨
     (A7w s k<=s.size/\k+2<=A7w s k/\byt s (A7w s k-1)=10/\(∀ j,k+1<=j->j<A7w s k-1->byt s j≠61)/\x=C0i 3) ∨
     (A7w s k<=s.size/\k+2<=A7w s k/\byt s (A7w s k-1)=10/\∃ i,B0z s 61 (k+1) (A7w s k-1) i/\x=recAt s k (A7w s k) i))
theorem C4o.one {s : ByteArray} {x y : Rec × ByteArray × Int} (h : C4o s x) (g : C4o s y) : x = y := by
 rcases h with ⟨hn,rfl⟩|⟨k,hk,h⟩
 ·rcases g with ⟨_,rfl⟩|⟨m,hm,_⟩
  ·rfl
  ·exact absurd ⟨m,hm⟩ hn
 ·rcases g with ⟨gn,_⟩|⟨m,hm,g⟩
  ·exact absurd ⟨k,hk⟩ gn
  ·obtain rfl:=hk.one hm;rcases h with ⟨h1,rfl⟩|⟨h1,h2,rfl⟩|⟨h1,h2,h3,h4,rfl⟩|⟨h1,h2,h3,i,h4,rfl⟩
   ·rcases g with ⟨g1,rfl⟩|⟨g1,g2,rfl⟩|⟨g1,g2,g3,g4,rfl⟩|⟨g1,g2,g3,i,g4,rfl⟩
    ·rfl
    ·omega
    ·omega
    ·omega
   ·rcases g with ⟨g1,rfl⟩|⟨g1,g2,rfl⟩|⟨g1,g2,g3,g4,rfl⟩|⟨g1,g2,g3,i,g4,rfl⟩
    ·omega
    ·rfl
    ·rfl
    ·rcases h2 with h2|h2
     ·omega
     ·exact absurd g3 h2
   ·rcases g with ⟨g1,rfl⟩|⟨g1,g2,rfl⟩|⟨g1,g2,g3,g4,rfl⟩|⟨g1,g2,g3,i,g4,rfl⟩
    ·omega
    ·rfl
    ·rfl
    ·exact absurd g4.2.2.1 (h4 i g4.1 g4.2.1)
   ·rcases g with ⟨g1,rfl⟩|⟨g1,g2,rfl⟩|⟨g1,g2,g3,g4,rfl⟩|⟨g1,g2,g3,i',g4,rfl⟩
    ·omega
    ·rcases g2 with g2|g2
     ·omega
     ·exact absurd h3 g2
    ·exact absurd h4.2.2.1 (g4 i h4.1 h4.2.1)
    ·rw [h4.one g4]
open Classical in
noncomputable def A6w (s : ByteArray) : Rec × ByteArray × Int := if h : ∃ x,C4o s x then Classical.choose h else C0i 3
theorem B2v {s : ByteArray} {x : Rec × ByteArray × Int} (h : C4o s x) : A6w s = x := by
 have hex:∃ x,C4o s x:=⟨x,h⟩;unfold A6w;rw [dif_pos hex];exact (Classical.choose_spec hex).one h
theorem C9h {s : ByteArray} (h : ¬ ∃ k,A2s s k) : A6w s = C0i 3 := B2v (.inl ⟨h,rfl⟩)
theorem C3s {s : ByteArray} {k : Nat} (h : A2s s k) (h1 : s.size < A7w s k) : A6w s = C0i 7 := B2v (.inr ⟨k,h,.inl ⟨h1,rfl⟩⟩)
theorem C6c {s : ByteArray} {k : Nat} (h : A2s s k) (h1 : A7w s k ≤ s.size) (h2 : A7w s k < k + 2 ∨ byt s (A7w s k - 1) ≠ 10) : A6w s = C0i 3 := B2v (.inr ⟨k,h,.inr (.inl ⟨h1,h2,rfl⟩)⟩)
theorem D8a {s : ByteArray} {k : Nat} (h : A2s s k) (h1 : A7w s k ≤ s.size) (h2 : k + 2 ≤ A7w s k) (h3 : byt s (A7w s k - 1) = 10) (h4 : ∀ j,k + 1 ≤ j → j < A7w s k - 1 → byt s j ≠ 61) : A6w s = C0i 3 :=
 B2v (.inr ⟨k,h,.inr (.inr (.inl ⟨h1,h2,h3,h4,rfl⟩))⟩)
theorem E9i {s : ByteArray} {k i : Nat} (h : A2s s k) (h1 : A7w s k ≤ s.size) (h2 : k + 2 ≤ A7w s k) (h3 : byt s (A7w s k - 1) = 10) (h4 : B0z s 61 (k + 1) (A7w s k - 1) i) : A6w s = recAt s k (A7w s k) i :=
 B2v (.inr ⟨k,h,.inr (.inr (.inr ⟨h1,h2,h3,i,h4,rfl⟩))⟩)
theorem C5s {s : ByteArray} {k n i : Nat} {f : Int} (h : A5c ⟨s.extract (k + 1) i,s.extract (i + 1) (n - 1)⟩ = f) (hf : f ≠ 0) : recAt s k n i = C0i f := by unfold recAt; rw [if_pos (by rw [h]; exact hf),h]
theorem C4s {s : ByteArray} {k n i : Nat} (h : A5c ⟨s.extract (k + 1) i,s.extract (i + 1) (n - 1)⟩ = 0) (h2 : A8p ⟨s.extract (k + 1) i,s.extract (i + 1) (n - 1)⟩ ≠ s.extract 0 n) : recAt s k n i = C0i 3 := by unfold recAt; rw [if_neg (by rw [h]; simp),if_neg h2]
theorem D7g {s : ByteArray} {k n i : Nat} (h : A5c ⟨s.extract (k + 1) i,s.extract (i + 1) (n - 1)⟩ = 0) (h2 : A8p ⟨s.extract (k + 1) i,s.extract (i + 1) (n - 1)⟩ = s.extract 0 n) : recAt s k n i = (⟨s.extract (k + 1) i,s.extract (i + 1) (n - 1)⟩,s.extract n s.size,0) := by unfold recAt; rw [if_neg (by rw [h]; simp),if_pos h2]
def B9b : List UInt8 := [48,49,50,51,52,53,54,55,56,57]
theorem E9m (x : UInt8) : B9b.contains x = true ↔ 48 ≤ x.toNat ∧ x.toNat ≤ 57 := by
 rw [List.contains_iff_mem];unfold B9b;simp only [List.mem_cons,List.not_mem_nil,or_false,<-UInt8.toNat_inj,UInt8.reduceToNat];omega
theorem C5d {p : UInt8 → Bool} {l : List UInt8} {x : UInt8} (hx : x ∈ l) (hp : p x = false) : x ∈ l.dropWhile p := by
 induction l with
 | nil=>cases hx
 | cons a l ih =>
   by_cases ha:p a=true
   ·rw [List.dropWhile_cons_of_pos ha];rcases List.mem_cons.1 hx with e|e
    ·rw [e,ha] at hp;cases hp
    ·exact ih e
   ·rw [List.dropWhile_cons_of_neg ha];exact hx
theorem E9y (l : List UInt8) : (Lib.trimS l B9b = []) ↔ ∀ x ∈ l,48 ≤ x.toNat ∧ x.toNat ≤ 57 := by
 constructor
 ·intro h x hx;cases hc:B9b.contains x with
  | true=>exact (E9m x).1 hc
  | false =>
    have h1:x∈Lib.trimRightS l B9b:=by
     unfold Lib.trimRightS;rw [List.mem_reverse];exact C5d (by simpa using hx) hc
    have h2:x∈Lib.trimS l B9b:=C5d h1 hc;rw [h] at h2;cases h2
 ·intro h;have hall:∀ m:List UInt8,(∀ x∈m,B9b.contains x=true)->m.dropWhile (B9b.contains ·)=[]:=by
   intro m;induction m with
   | nil=>intro _;rfl
   | cons a m ih =>
     intro hm;rw [List.dropWhile_cons_of_pos (hm a (by simp))];exact ih (fun x hx=>hm x (by simp [hx]))
  unfold Lib.trimS Lib.trimRightS Lib.trimLeftS;rw [hall l.reverse (fun x hx=>(E9m x).2 (h x (by simpa using hx)))];rfl
theorem C7p {s : ByteArray} {j : Nat} (h : j < s.size) : ∃ b,s.data.toList[j]? = some b ∧ b.toNat = byt s j := by
 have h1:j<s.data.toList.length:=by simpa using h
 refine ⟨s.data.toList[j],List.getElem?_eq_getElem h1,?_⟩;unfold byt;rw [List.getD_eq_getElem?_getD,List.getElem?_eq_getElem h1];rfl
theorem D1a {s : ByteArray} {k : Nat} (h : k ≤ s.size) : (s.extract 0 k).data.toList = s.data.toList.take k := by
 rw [Lib.extract_data,List.drop_zero,Nat.sub_zero]
theorem num_iff {s : ByteArray} {k : Nat} (h : k ≤ s.size) : (∀ x ∈ (s.extract 0 k).data.toList,48 ≤ x.toNat ∧ x.toNat ≤ 57) ↔ C5k s k := by
 rw [D1a h];constructor
 ·intro hx j hj;obtain ⟨b,hb,e⟩:=C7p (s:=s) (j:=j) (by omega);rw [<-e];exact hx b (List.mem_of_getElem? (i:=j) (by rw [List.getElem?_take,if_pos hj];exact hb))
 ·intro hn x hx;obtain ⟨j,hj,rfl⟩:=List.getElem_of_mem hx;have hj':j<k:=by rw [List.length_take] at hj;omega
  obtain ⟨b,hb,e⟩:=C7p (s:=s) (j:=j) (by omega);rw [List.getElem_take];have:s.data.toList[j]'(by rw [List.length_take] at hj;omega)=b:=by
   rw [List.getElem?_eq_getElem (by rw [List.length_take] at hj;omega)] at hb;exact Option.some.inj hb
  rw [this,e];exact hn j hj'
theorem C4w {s : ByteArray} : ∀ {k : Nat},k ≤ s.size → C5k s k → Lib.decFrom 0 (s.data.toList.take k) = some (A7w s k)
 | 0,_,_=>rfl
 | k+1,h,hn=>by
   have ih:=C4w (k:=k) (by omega) (fun j hj=>hn j (by omega));obtain ⟨b,hb,e⟩:=C7p (s:=s) (j:=k) (by omega);have hd:=hn k (by omega);have:=Lib.decFrom_take s.data.toList k 0 (A7w s k) b (byt s k-48) ih hb (by unfold Lib.digitVal;rw [e,if_pos hd]);rw [this];simp only [A7w];congr 1;omega
theorem F2r {s : ByteArray} {k : Nat} (h1 : 1 ≤ k) (h : k ≤ s.size) (hn : C5k s k) : Lib.atoi (s.extract 0 k).data.toList = some (A7w s k : Int) := by
 rw [D1a h];have hd:=C4w h hn;obtain ⟨b,hb,e⟩:=C7p (s:=s) (j:=0) (by omega);have h0:=hn 0 (by omega);obtain ⟨r,hr⟩:∃ r,s.data.toList.take k=b::r:=by
  cases hl:s.data.toList with
  | nil=>rw [hl] at hb;cases hb
  | cons a t =>
    rw [hl] at hb;obtain rfl:a=b:=by simpa using hb
    obtain ⟨m,rfl⟩:∃ m,k=m+1:=⟨k-1,by omega⟩;exact ⟨t.take m,by rw [List.take_succ_cons]⟩
 rw [hr] at hd ⊢;have hb1:(b==45)=false:=by
  rw [beq_eq_false_iff_ne];intro e2;rw [e2] at e;have:(45:UInt8).toNat=45:=rfl;omega
 have hb2:(b==43)=false:=by
  rw [beq_eq_false_iff_ne];intro e2;rw [e2] at e;have:(43:UInt8).toNat=43:=rfl;omega
 unfold Lib.atoi;simp only [hb1,hb2,Bool.false_eq_true,if_false];unfold Lib.decNat;simp [hd]
theorem F6f {s : ByteArray} {a b i j : Nat} (hj : a + j ≤ b) : (s.extract a b).extract i j = s.extract (a + i) (a + j) := by
 apply A0h;rw [Lib.extract_data,Lib.extract_data,Lib.extract_data,List.drop_take,List.drop_drop,List.take_take];congr 1;omega
theorem E4n {s : ByteArray} {a b j : Nat} (hb : b ≤ s.size) (hj : a + j < b) : byt (s.extract a b) j = byt s (a + j) := by
 unfold byt;rw [Lib.extract_data,List.getD_eq_getElem?_getD,List.getD_eq_getElem?_getD,List.getElem?_take,if_pos (by omega),List.getElem?_drop]
theorem A2c {fn : Func} {p u x : Tmp} {ty : TypeId} (h : fn.results = #[.cell p ty,.tmp u,.tmp x]) (tmps : Array Value) (P : Program) (w : World) :
 (results fn tmps).run P w =
   ((asAddr (tmps.getD p undef)).run P w).andThen fun a w₁=>((loadVar ty a).run P w₁).andThen fun v w₂ => .ok (.tuple #[v,tmps.getD u undef,tmps.getD x undef]) w₂:=by
 simp only [results,h];simp [Sem.run_bind,Result.andThen]
def E3y (ty : TypeId) (b : Nat) (key value : ByteArray) (w : World) : Prop := w.heap[b]? = some (.cells #[.string key,.string value] ty (0,0))
theorem E3y.lt {ty : TypeId} {b : Nat} {x y : ByteArray} {w : World} (h : E3y ty b x y w) : b < w.heap.size := (ltO h)
theorem E3y.on {ty : TypeId} {b : Nat} {x y : ByteArray} {w w' : World} (h : E3y ty b x y w) (hb : Below w.heap.size w w') : E3y ty b x y w' := (hb.block b h.lt).trans h
theorem E3y.facts {ty : TypeId} {b : Nat} {x y : ByteArray} {w : World} (h : E3y ty b x y w) : w.cell? ⟨b,0,none⟩ = some (.string x) ∧ w.cell? ⟨b,1,none⟩ = some (.string y) ∧ w.frozen? ⟨b,0,none⟩ = false ∧ w.frozen? ⟨b,1,none⟩ = false := by
 have h':=h;unfold E3y at h';exact ⟨cellAt h' rfl,cellAt h' rfl,frozen_of_row w b 0 _ ty h',frozen_of_row w b 1 _ ty h'⟩
theorem head_at {s : ByteArray} {k m : Nat} (h1 : byt s k = 32) (h2 : ∀ j,j < k → byt s j ≠ 32) (h : A2s s m) : m = k := by
 obtain ⟨_,_,_,h4,_,h6⟩:=h;rcases Nat.lt_trichotomy m k with e|e|e
 ·exact absurd h6 (h2 m e)
 ·exact e
 ·have:=h4 k e;omega
theorem F9a (s : ByteArray) : C4o s (A6w s) := by
 have hex:∃ x,C4o s x:=by
  by_cases h:∃ k,A2s s k
  ·obtain ⟨k,hk⟩:=h;by_cases h1:s.size<A7w s k
   ·exact ⟨_,.inr ⟨k,hk,.inl ⟨h1,rfl⟩⟩⟩
   ·by_cases h2:A7w s k<k+2\/byt s (A7w s k-1)≠10
    ·exact ⟨_,.inr ⟨k,hk,.inr (.inl ⟨by omega,h2,rfl⟩)⟩⟩
    ·have h3:k+2<=A7w s k:=by omega
     have h4:byt s (A7w s k-1)=10:=by omega
     by_cases h5:∀ j,k+1<=j->j<A7w s k-1->byt s j≠61
     ·exact ⟨_,.inr ⟨k,hk,.inr (.inr (.inl ⟨by omega,h3,h4,h5,rfl⟩))⟩⟩
     ·have h6:∃ j,k+1<=j/\j<A7w s k-1/\byt s j=61:=by
       refine Classical.byContradiction fun hn=>h5 fun j a b c=>hn ⟨j,a,b,c⟩
      have h7:∃ i,B0z s 61 (k+1) (A7w s k-1) i:=by
       obtain ⟨j,a,b,c⟩:=h6;induction j using Nat.strongRecOn with
       | ind j ih =>
         by_cases hq:∃ q,k+1<=q/\q<j/\byt s q=61
         ·obtain ⟨q,q1,q2,q3⟩:=hq;exact ih q q2 q1 (by omega) q3
         ·exact ⟨j,a,b,c,fun q q1 q2 q3=>hq ⟨q,q1,q2,q3⟩⟩
      obtain ⟨i,hi⟩:=h7;exact ⟨_,.inr ⟨k,hk,.inr (.inr (.inr ⟨by omega,h3,h4,i,hi,rfl⟩))⟩⟩
  ·exact ⟨_,.inl ⟨h,rfl⟩⟩
 obtain ⟨x,hx⟩:=hex;rw [B2v hx];exact hx
theorem D9a {s : ByteArray} (h : (A6w s).2.2 = 0) : (A6w s).2.1.size < s.size ∧ (A6w s).1.key.size ≤ s.size ∧ (A6w s).1.value.size ≤ s.size := by
 have hr:=F9a s;generalize A6w s=x at *;rcases hr with ⟨_,rfl⟩|⟨k,hk,⟨_,rfl⟩|⟨_,_,rfl⟩|⟨_,_,_,_,rfl⟩|⟨h1,h2,h3,i,h4,rfl⟩⟩
 ·cases h
 ·cases h
 ·cases h
 ·cases h
 ·by_cases hf:A5c ⟨s.extract (k+1) i,s.extract (i+1) (A7w s k-1)⟩=0
  ·by_cases ht:A8p ⟨s.extract (k+1) i,s.extract (i+1) (A7w s k-1)⟩=s.extract 0 (A7w s k)
   ·rw [D7g hf ht];refine ⟨?_,?_,?_⟩<;>simp<;>omega
   ·rw [C4s hf ht] at h;cases h
  ·rw [C5s rfl hf] at h;exact absurd h hf
noncomputable def B5s : Nat → ByteArray → List Rec → List Rec × Int
 | 0,_,acc=>(acc,0)
 | n+1,s,acc=>if s.size=0 then (acc,0) else if (A6w s).2.2=0 then B5s n (A6w s).2.1 (acc++[(A6w s).1]) else ([],(A6w s).2.2)
theorem D5b {n : Nat} {s : ByteArray} {acc : List Rec} (h : s.size = 0) : B5s n s acc = (acc,0) := by
 cases n with
 | zero=>rfl
 | succ n=>simp only [B5s];rw [if_pos h]
theorem D7q {n : Nat} {s : ByteArray} {acc : List Rec} (h : s.size ≠ 0) (hn : s.size ≤ n) (he : (A6w s).2.2 ≠ 0) : B5s n s acc = ([],(A6w s).2.2) := by
 obtain ⟨m,rfl⟩:∃ m,n=m+1:=⟨n-1,by omega⟩;simp only [B5s];rw [if_neg h,if_neg he]
theorem D4b {n : Nat} {s : ByteArray} {acc : List Rec} (h : s.size ≠ 0) (hn : s.size ≤ n) (he : (A6w s).2.2 = 0) : B5s n s acc = B5s (n - 1) (A6w s).2.1 (acc ++ [(A6w s).1]) := by
 obtain ⟨m,rfl⟩:∃ m,n=m+1:=⟨n-1,by omega⟩;simp only [B5s];rw [if_neg h,if_pos he];rfl
noncomputable def A2r (s : ByteArray) : List Rec × Int :=
 if (B5s s.size s []).2≠0 then ([],(B5s s.size s []).2) else if A3e (B5s s.size s []).1≠0 then ([],A3e (B5s s.size s []).1) else ((B5s s.size s []).1,0)
def A6e : List Rec → ByteArray → ByteArray × Bool
 | [],_=>(ByteArray.empty,false)
 | r::t,key=>if r.key=key then (r.value,true) else A6e t key
theorem D9p {l : List Rec} {k : Nat} (h : k < l.length) (key : ByteArray) : A6e (l.drop k) key = if (rk l k).key = key then ((rk l k).value,true) else A6e (l.drop (k + 1)) key := by
 rw [List.drop_eq_getElem_cons h];simp [A6e,rk,List.getD_eq_getElem?_getD,List.getElem?_eq_getElem h]
def A7n (c : UInt8) : Bool := decide (48 ≤ c.toNat ∧ c.toNat ≤ 57)
def A0g (l : List UInt8) : Nat := l.foldl (fun n c => 10 * n + (c.toNat - 48)) 0
theorem B4p (l : List UInt8) (c : UInt8) : A0g (l ++ [c]) = 10 * A0g l + (c.toNat - 48) := by simp [A0g]
theorem dig48 {x : Nat} (h : x < 10) : (UInt8.ofNat (48 + x)).toNat - 48 = x := by rw [F9f x h]; omega
theorem D3j {x : Nat} (h : x < 10) : A7n (UInt8.ofNat (48 + x)) = true := by
 unfold A7n;rw [F9f x h];simp;omega
theorem D4d (u : Nat) : A0g (Lib.decDigits u) = u := by
 induction u using Nat.strongRecOn with
 | _ u ih =>
   rw [Lib.decDigits];by_cases h:u<10
   ·rw [dif_pos h];simp [A0g];omega
   ·rw [dif_neg h,B4p,ih (u / 10) (by omega),dig48 (by omega)];omega
theorem E0n (u : Nat) : (Lib.decDigits u).all A7n = true := by
 induction u using Nat.strongRecOn with
 | _ u ih =>
   rw [Lib.decDigits];by_cases h:u<10
   ·rw [dif_pos h,List.all_cons,D3j h];rfl
   ·rw [dif_neg h,List.all_append,ih (u / 10) (by omega)];rw [List.all_cons,D3j (Nat.mod_lt u (by decide:0<10))];rfl
theorem E7u (k : Nat) (l : List UInt8) : A0g (List.replicate k 48 ++ l) = A0g l := by
 induction k with
 | zero=>rfl
 | succ k ih =>
   rw [List.replicate_succ,List.cons_append];unfold A0g at ih ⊢;rw [List.foldl_cons];exact ih
theorem D1v {N : Nat} (h : N < 10 ^ 9) : A0g (A1j N 9) = N := by rw [← pad9 h,E7u,D4d]
theorem D1d (N k : Nat) : (A1j N k).all A7n = true := by
 rw [List.all_eq_true];intro c hc;obtain ⟨i,_,rfl⟩:=List.mem_map.1 hc;exact D3j (Nat.mod_lt _ (by decide))
def A2i (l : List UInt8) (most : Nat) : Nat × Bool := if l.length < 1 ∨ most < l.length then (0,false) else if l.all A7n = true then (A0g l,true) else (0,false)
theorem C0k {l : List UInt8} {most : Nat} (h1 : 1 ≤ l.length) (h2 : l.length ≤ most) (h3 : l.all A7n = true) : A2i l most = (A0g l,true) := by
 unfold A2i;rw [if_neg (by omega),if_pos h3]
def A4k (l : List UInt8) : Nat := (l.takeWhile (· != 46)).length
structure Raw where
 below:Bool
 second:Nat
 nano:Nat
 ok:Bool
def A7c (l : List UInt8) : List UInt8 := if l.head? = some 45 then l.tail else l
def A6q (l : List UInt8) : Bool := decide (l.head? = some 45)
def B0c (l : List UInt8) : List UInt8 := l ++ List.replicate (9 - l.length) 48
def B3v (l : List UInt8) : Raw :=
 if A4k (A7c l)<(A7c l).length then
  ⟨A6q l,(A2i ((A7c l).take (A4k (A7c l))) 13).1,(A2i (B0c ((A7c l).drop (A4k (A7c l)+1))) 9).1,(A2i ((A7c l).take (A4k (A7c l))) 13).2&&(A2i (B0c ((A7c l).drop (A4k (A7c l)+1))) 9).2⟩
 else ⟨A6q l,(A2i (A7c l) 13).1,0,(A2i (A7c l) 13).2⟩
def A4q : Nat → List UInt8 → Nat
 | 0,_=>0
 | _,[]=>0
 | m+1,c::l=>if A7n c=true then A4q m l+1 else 0
theorem B9t {a b : List UInt8} {m : Nat} (h : a.all A7n = true) (hl : a.length ≤ m) (hb : ∀ c,b.head? = some c → A7n c = false) : A4q m (a ++ b) = a.length := by
 induction a generalizing m with
 | nil =>
   cases m with
   | zero=>rfl
   | succ m =>
     cases b with
     | nil=>rfl
     | cons c b =>
       have:=hb c rfl;simp [A4q,this]
 | cons c a ih =>
   cases m with
   | zero=>simp at hl
   | succ m =>
     rw [List.all_cons,Bool.and_eq_true] at h;rw [List.cons_append,A4q,if_pos h.1,ih h.2 (by simpa using hl)];rfl
def D8c (l : List UInt8) : Nat := A0g (l.take (A4q 9 l)) * 10 ^ (9 - A4q 9 l)
def C2g (l : List UInt8) : Raw :=
 ⟨A6q l,A0g ((A7c l).take (A4q 14 (A7c l))),if (A7c l)[A4q 14 (A7c l)]?=some 46 then D8c ((A7c l).drop (A4q 14 (A7c l)+1)) else 0,true⟩
def C4j (b : Bool) (s n : Nat) : Int := if b = true then (if 0 < n then -(s : Int) - 1 else -(s : Int)) else s
def C5j (b : Bool) (n : Nat) : Int := if b = true ∧ 0 < n then 1000000000 - (n : Int) else n
def A7e (l : List UInt8) (r : Raw) : Int × Int × Int := if r.ok = true ∧ A3c (C4j r.below r.second r.nano) (C5j r.below r.nano) = (ofL l,0) then (C4j r.below r.second r.nano,C5j r.below r.nano,0) else (0,0,3)
theorem D6f {a b : Int} (h : A3d a b = 0) : ∃ frac,(A3c a b).1 = ofL ((if a < 0 then [45] else []) ++ Lib.decDigits (A9n a b).toNat ++ frac) ∧ ((A3m a b = 0 ∧ frac = []) ∨ ∃ k,k ≤ 9 ∧ 0 < A3m a b ∧ A3m a b < 1000000000 ∧ (A3m a b).toNat % 10 ^ (9 - k) = 0 ∧ frac = 46 :: A1j (A3m a b).toNat k) := by
 obtain ⟨h1,h2,h3,h4⟩:=A6r h;have hS:Lib.itoa (A9n a b)=Lib.decDigits (A9n a b).toNat:=by
  unfold Lib.itoa;rw [if_neg (by unfold A9n;split<;>(try split)<;>omega)]
 have hH:B6c a b=ofL ((if a<0 then [45] else [])++Lib.decDigits (A9n a b).toNat):=by
  unfold B6c A9z;rw [hS,<-A5k];congr 1;split<;>rfl
 have hN:0<=A3m a b/\A3m a b<1000000000:=by unfold A3m;split<;>omega
 unfold A3c;rw [if_neg (by simpa using h)];by_cases h0:A3m a b=0
 ·rw [if_pos h0];exact ⟨[],by simpa using hH,.inl ⟨h0,rfl⟩⟩
 ·rw [if_neg h0];obtain ⟨k,hk,hk0,hk1⟩:∃ k,k<=9/\(A3m a b).toNat % 10 ^ (9-k)=0/\(k=0\/(A3m a b).toNat % 10 ^ (10-k)≠0):=by
   generalize (A3m a b).toNat=N;have:∀ j,j<=9->N % 10 ^ (9-j)=0->∃ k,k<=9/\N % 10 ^ (9-k)=0/\(k=0\/N % 10 ^ (10-k)≠0):=by
    intro j;induction j with
    | zero=>exact fun _ h=>⟨0,by omega,h,.inl rfl⟩
    | succ j ih =>
      intro hj hm;by_cases hz:N % 10 ^ (9-j)=0
      ·exact ih (by omega) hz
      ·exact ⟨j+1,hj,hm,.inr (by rw [show 10-(j+1)=9-j by omega];exact hz)⟩
   exact this 9 (by omega) (by simp [Nat.mod_one])
  refine ⟨46::A1j (A3m a b).toNat k,?_,.inr ⟨k,hk,by omega,hN.2,hk0,rfl⟩⟩;show B6c a b++ofL [46]++ofL (Lib.trimRightB (A1j (A3m a b).toNat 9) 48)=_
  rw [trim9 hk hk0 hk1,hH,A5k,A5k,List.append_assoc,List.append_assoc,List.append_assoc];simp
theorem dec_ne (u : Nat) : Lib.decDigits u ≠ [] := by
 intro h;have h1:=Lib.decDigits_length u;have h2:=Lib.nDigits_pos u;rw [h] at h1;simp at h1;omega
theorem E4d {a b : List UInt8} (h : a ≠ []) : (a ++ b).head? = a.head? := by cases a; exact absurd rfl h; rfl
theorem F5q (u : Nat) : (Lib.decDigits u).head? ≠ some 45 := by
 intro h;cases hd:Lib.decDigits u with
 | nil=>rw [hd] at h;cases h
 | cons c l =>
   rw [hd] at h;simp at h;subst h;have:=E0n u;rw [hd,List.all_cons,Bool.and_eq_true] at this;exact absurd this.1 (by decide)
theorem F6a (p : Prop) [Decidable p] {d f : List UInt8} (hd : d ≠ []) (h : d.head? ≠ some 45) : A7c ((if p then [45] else []) ++ d ++ f) = d ++ f ∧ A6q ((if p then [45] else []) ++ d ++ f) = decide p := by
 by_cases hp:p
 ·rw [if_pos hp];simp [A7c,A6q,hp]
 ·rw [if_neg hp];have:(d++f).head?≠some 45:=by rw [E4d hd];exact h
  simp only [List.nil_append];unfold A7c A6q;rw [if_neg this,decide_eq_false this,decide_eq_false hp];exact ⟨rfl,rfl⟩
theorem B9w {a b : List UInt8} (h : a.all A7n = true) : (a ++ b).takeWhile (· != 46) = a ++ b.takeWhile (· != 46) := by
 apply List.takeWhile_append_of_pos;intro c hc;have:=List.all_eq_true.1 h c hc;by_cases e:c=46
 ·subst e;exact absurd this (by decide)
 ·simpa using e
theorem E4u {a b : List UInt8} (h : a.all A7n = true) : A4k (a ++ 46 :: b) = a.length := by
 unfold A4k;rw [B9w h];simp
theorem E3u {a : List UInt8} (h : a.all A7n = true) : A4k a = a.length := by
 have:=B9w (b:=[]) h;rw [List.append_nil] at this;unfold A4k;rw [this];simp
theorem E1e {N k : Nat} (hk : k ≤ 9) (hN : N < 10 ^ 9) (h0 : N % 10 ^ (9 - k) = 0) : D8c (A1j N k) = N := by
 have hc:=B9t (m:=9) (b:=[]) (D1d N k) (by rw [A2g];exact hk) (fun c hc=>by cases hc);rw [List.append_nil,A2g] at hc;unfold D8c;rw [hc,List.take_of_length_le (by rw [A2g];omega)];have:∀ j,j<=9->A0g (A1j N j)=N / 10 ^ (9-j):=by
  intro j;induction j with
  | zero=>intro _;rw [Nat.div_eq_of_lt (by simpa using hN)];rfl
  | succ j ih =>
    intro hj;rw [C9j,B4p,ih (by omega)];have e:(F4q N j).toNat-48=N / 10 ^ (8-j) % 10:=by rw [D2d];omega
    have e2:9-j=(8-j)+1:=by omega
    have e3:9-(j+1)=8-j:=by omega
    rw [e,e2,e3,Nat.pow_succ,<-Nat.div_div_eq_div_mul];omega
 rw [this k hk];exact Nat.div_mul_cancel (Nat.dvd_of_mod_eq_zero h0)
theorem D9q {N k : Nat} (hk : k ≤ 9) (h0 : N % 10 ^ (9 - k) = 0) : B0c (A1j N k) = A1j N 9 := by
 unfold B0c;rw [A2g];apply List.ext_getElem?;intro i;by_cases hi:i<k
 ·rw [List.getElem?_append_left (by rw [A2g];exact hi),B3p N hi,B3p N (by omega)]
 ·rw [List.getElem?_append_right (by rw [A2g];omega),A2g];by_cases hi9:i<9
  ·rw [B3p N hi9,List.getElem?_replicate,if_pos (by omega)];obtain ⟨q,rfl⟩:=Nat.dvd_of_mod_eq_zero h0;have e1:9-k=(8-i)+((i-k)+1):=by omega
   have:10 ^ (9-k)*q / 10 ^ (8-i) % 10=0:=by
    rw [e1,Nat.pow_add,Nat.mul_assoc,Nat.mul_div_cancel_left _ (Nat.pos_of_ne_zero (by simp)),Nat.pow_succ,Nat.mul_comm (10 ^ (i-k)) 10,Nat.mul_assoc,Nat.mul_mod_right]
   unfold F4q;rw [this];rfl
  ·rw [List.getElem?_replicate,if_neg (by omega),List.getElem?_eq_none (by rw [A2g];omega)]
theorem fix_is {a b : Int} (h : A3d a b = 0) : C4j (decide (a < 0)) (A9n a b).toNat (A3m a b).toNat = a ∧ C5j (decide (a < 0)) (A3m a b).toNat = b := by
 obtain ⟨h1,h2,h3,h4⟩:=A6r h;unfold C4j C5j A9n A3m;by_cases ha:a<0
 ·by_cases hb:0<b
  ·simp [ha,hb];constructor
   ·rw [if_pos (by omega)];omega
   ·omega
  ·have:b=0:=by omega
   subst this;simp [ha];omega
 ·simp [ha];omega
theorem F8n {a b : Int} (h : A3d a b = 0) {l : List UInt8} (hl : (A3c a b).1 = ofL l) :
 (B3v l).below=decide (a<0)/\(B3v l).second=(A9n a b).toNat/\(B3v l).nano=(A3m a b).toNat/\(B3v l).ok=true ∧
 (C2g l).below=decide (a<0)/\(C2g l).second=(A9n a b).toNat/\(C2g l).nano=(A3m a b).toNat:=by
 obtain ⟨h1,h2,h3,h4⟩:=A6r h;obtain ⟨f,hf,hcase⟩:=D6f h;have hl2:l=(if a<0 then [45] else [])++Lib.decDigits (A9n a b).toNat++f:=by
  rw [hf] at hl;have:=congrArg (fun s:ByteArray=>s.data.toList) hl;simpa [ofL] using this.symm
 have hS0:0<=A9n a b/\A9n a b<=1099511627776:=by unfold A9n;split<;>(try split)<;>omega
 have hlen:(Lib.decDigits (A9n a b).toNat).length<=13:=by
  rw [Lib.decDigits_length]
  exact B4k 12 _ (by have:(10:Nat) ^ 13=10000000000000:=by decide
                     omega)
 have hne:=dec_ne (A9n a b).toNat;have hd:=E0n (A9n a b).toNat;have hv:=D4d (A9n a b).toNat;obtain ⟨hr,hb⟩:=F6a (a<0) (f:=f) hne (F5q (A9n a b).toNat);rw [<-hl2] at hr hb;have hpos:1<=(Lib.decDigits (A9n a b).toNat).length:=by
  rcases Nat.eq_zero_or_pos (Lib.decDigits (A9n a b).toNat).length with h|h
  ·exact absurd (List.eq_nil_of_length_eq_zero h) hne
  ·exact h
 generalize Lib.decDigits (A9n a b).toNat=d at *;rcases hcase with ⟨hN,rfl⟩|⟨k,hk,hN0,hN1,hk0,rfl⟩
 ·rw [List.append_nil] at hr;have e1:=E3u hd;have e2:=B9t (m:=14) (b:=[]) hd (by omega) (fun c hc=>by cases hc);rw [List.append_nil] at e2;have e3:=C0k hpos hlen hd;unfold B3v C2g;rw [hr,hb,e1,e2,if_neg (by omega),e3,hv,hN,List.take_of_length_le lr,hv,List.getElem?_eq_none lr];exact ⟨rfl,rfl,rfl,rfl,rfl,rfl,rfl⟩
 ·have e1:=E4u (b:=A1j (A3m a b).toNat k) hd;have e2:=B9t (m:=14) (b:=46::A1j (A3m a b).toNat k) hd (by omega) (fun c hc=>by simp at hc;subst hc;decide);have e3:=C0k hpos hlen hd
  have hN9:(A3m a b).toNat<10 ^ 9:=by have:(10:Nat) ^ 9=1000000000:=by decide
                                      omega
  have e4:A2i (A1j (A3m a b).toNat 9) 9=((A3m a b).toNat,true):=by
   rw [C0k (by rw [A2g];omega) (by rw [A2g];omega) (D1d _ _),D1v hN9]
  have e5:(d++46::A1j (A3m a b).toNat k).drop (d.length+1)=A1j (A3m a b).toNat k:=by
   rw [List.drop_append];simp
  have e6:(d++46::A1j (A3m a b).toNat k)[d.length]?=some 46:=by
   rw [List.getElem?_append_right lr];simp
  unfold B3v C2g;rw [hr,hb,e1,e2,if_pos (by simp),e5,List.take_left,e3,hv,D9q hk hk0,e4,e6,if_pos rfl,E1e hk hN9 hk0];exact ⟨rfl,rfl,rfl,rfl,rfl,rfl,rfl⟩
theorem C6y {a b : Int} {s : ByteArray} (h : A3c a b = (s,0)) : A3d a b = 0 := by
 refine Classical.byContradiction fun hn=>?_
 unfold A3c at h;rw [if_pos hn] at h;exact hn (congrArg Prod.snd h)
theorem E0z (l : List UInt8) : A7e l (B3v l) = A7e l (C2g l) := by
 have hRok:(C2g l).ok=true:=rfl;have key:∀ a b,A3c a b=(ofL l,0)->A7e l (B3v l)=(a,b,0)/\A7e l (C2g l)=(a,b,0):=by
  intro a b h;have h0:=C6y h;obtain ⟨p1,p2,p3,p4,r1,r2,r3⟩:=F8n (l:=l) h0 (by rw [h]);obtain ⟨f1,f2⟩:=fix_is h0;unfold A7e;rw [p1,p2,p3,p4,r1,r2,r3,hRok,f1,f2,if_pos ⟨rfl,h⟩];exact ⟨rfl,rfl⟩
 by_cases hp:(B3v l).ok=true/\A3c (C4j (B3v l).below (B3v l).second (B3v l).nano) (C5j (B3v l).below (B3v l).nano)=(ofL l,0)
 ·obtain ⟨k1,k2⟩:=key _ _ hp.2;rw [k1,k2]
 ·by_cases hr:(C2g l).ok=true/\A3c (C4j (C2g l).below (C2g l).second (C2g l).nano) (C5j (C2g l).below (C2g l).nano)=(ofL l,0)
  ·obtain ⟨k1,k2⟩:=key _ _ hr.2;rw [k1,k2]
  ·unfold A7e;rw [if_neg hp,if_neg hr]
end Go.Creel
namespace Go.Proofs.YtaffgndickdbiaaGreatDoor
open Go.Creel Go.RowKit
theorem C5o (s : ByteArray) (c : UInt8) (w : World) :
 Calls Tryz.prog 229 #[.string s,.string ⟨#[c]⟩] w fun e w'=>e=.returned (.int .i64 (firstIdx s c))/\w=w':=by
 refine (Any.stringslite_Index_one { Tryz.lays143 with } s c w).mono ?_;rintro e w' ⟨rfl,rfl⟩;rw [Lib.firstIdx_eq];exact ⟨rfl,rfl⟩
theorem D9e (s : ByteArray) (c : UInt8) (i : Nat) (w : World) (hs : s.size ≤ maxLen) (hi : firstIdx s c = i) (hl : i < s.size) :
 Calls Tryz.prog 173 #[.string s,.string ⟨#[c]⟩] w fun e w'=>e=.returned (.tuple #[.string (s.extract 0 i),.string (s.extract (i+1) s.size),.bool true])/\∃ n,w'=w.drewN n:=by
 have hI:=C5o s c w;unfold maxLen at hs;rw [hi] at hI;have HI:=Hi hI;clear hI hi;have hsl:s.size<=9223372036854775807:=by omega
 have H:Calls Tryz.prog 210 #[.string s,.string ⟨#[c]⟩] w fun e w'=>e=.returned (.tuple #[.string (s.extract 0 i),.string (s.extract (i+1) s.size),.bool true])/\∃ n,w'=w.drewN n:=by
  go_enter Tryz.func210,Tryz.ntmps210;go_wp2_with fail
  refine HI.out.mono ?_;rintro e w' ⟨rfl,rfl⟩;go_wp2_with fail
  go_quiet (fail)
  go_wp2
  go_ret3
  exact ⟨rfl,_,rfl⟩
 have H':=Hi H;clear H HI hl hsl hs;go_enter Tryz.func173,Tryz.ntmps173;go_wp2_with fail
 refine H'.out.mono ?_;rintro e w' ⟨rfl,n,rfl⟩;go_wp2
 go_ret3
 exact ⟨rfl,_,rfl⟩
theorem D6y (s : ByteArray) (c : UInt8) (w : World) (hi : firstIdx s c = -1) :
 Calls Tryz.prog 173 #[.string s,.string ⟨#[c]⟩] w fun e w'=>e=.returned (.tuple #[.string s,.string ByteArray.empty,.bool false])/\∃ n,w'=w.drewN n:=by
 have hI:=C5o s c w;rw [hi] at hI;have HI:=Hi hI;clear hI hi;have H:Calls Tryz.prog 210 #[.string s,.string ⟨#[c]⟩] w fun e w'=>e=.returned (.tuple #[.string s,.string ByteArray.empty,.bool false])/\w'=w:=by
  go_enter Tryz.func210,Tryz.ntmps210;go_wp2_with fail
  refine HI.out.mono ?_;rintro e w' ⟨rfl,rfl⟩;go_wp2
  go_ret3
  exact ⟨rfl,rfl⟩
 have H':=Hi H;clear H HI;go_enter Tryz.func173,Tryz.ntmps173;go_wp2_with fail
 refine H'.out.mono ?_;rintro e w' ⟨rfl,rfl⟩;go_wp2
 go_ret3
 exact ⟨rfl,0,rfl⟩
theorem D7k {N : Nat} (v : Value) (l : List Rec) (key : ByteArray) (w : World) (h : A4a N 2 (F4i N) w [v] l) :
 Calls Tryz.prog 121 #[v,.string key] w fun e w'=>e=.returned (.tuple #[.string (A6e l key).1,.bool (A6e l key).2])/\Below w.heap.size w w':=by
 rcases B1k h with ⟨a,cap,rfl,rfl⟩|⟨b,off,cap,rfl,hpos,hle,hm,_,hc⟩
 ·go_enter Tryz.func121,Tryz.ntmps121;go_wp2
  go_loop [7,10] (fun _ i=>i=.int .i64 0) (fun _ _=>0)
  case atStart=>rfl
  case round =>
   obtain rfl:=hrel;go_wp2;go_ret2;exact ⟨rfl,Below.refl _ _⟩
 ·unfold maxLen at hm;have hbl:b<w.heap.size:=World.block_lt_of_cell? w _ (hc 0 hpos).1.1;have Hc:=Hi hc;have HF:=Hi (show A6e l key=A6e (l.drop 0) key by simp);generalize hp:A6e l key=p at *;clear hc h hp;go_enter Tryz.func121,Tryz.ntmps121;go_wp2;go_loopw [7,10] (fun _ i wr=>∃ k:Nat,k<=l.length/\i=.int .i64 k/\Hid (p=A6e (l.drop k) key)/\Below w.heap.size w wr) (fun _ i _=>l.length-(intOf i).toNat)
  case atStart=>exact ⟨0,by omega,rfl,HF,Below.refl _ _⟩
  case round =>
   obtain ⟨k,hk,rfl,HP,hB⟩:=hrel;by_cases hlt:k<l.length
   ·obtain ⟨⟨hc0,hc1⟩,_⟩:=Hc.out k hlt;rw [<-hB.cell (p:=⟨b,off+k*2,none⟩) hbl] at hc0;rw [<-hB.cell (p:=⟨b,off+k*2+1,none⟩) hbl] at hc1;have HS:=Hi (D9p hlt key);have HB:=Hi hB;have hsz:=hB.size;clear hB;by_cases he:(rk l k).key=key
    ·have hb:=B3n he;have HE:=Hi he;clear he;go_wp2;go_ret2;exact ⟨F3v (by rw [HP.out,HS.out,if_pos HE.out]),HB.out.alloc hsz _⟩
    ·have hb:=A5w he;have HE:=Hi he;clear he;go_wp2;go_roundw
     case rel=>exact ⟨k+1,by omega,by go_num,by have:=HP.out;rw [HS.out,if_neg HE.out] at this;exact this,HB.out.alloc hsz _⟩
     case measure=>simp [intOf];omega
   ·have hk':k=l.length:=by omega
    subst hk';go_wp2;go_ret2;exact ⟨F3v (by rw [HP.out,List.drop_length];rfl),hB⟩
end Go.Proofs.YtaffgndickdbiaaGreatDoor
