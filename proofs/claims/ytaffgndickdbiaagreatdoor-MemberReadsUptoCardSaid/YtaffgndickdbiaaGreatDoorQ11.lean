/-
  Texts: CutBy, RecOf, RecBox, PaxOf, PaxFind, TimeSpec.
-/
import Derived.Lib.Atoi
import Derived.Lib.SlTrimSet
import Derived.Test.YtaffgndickdbiaaGreatDoorQ08
import Derived.Laws.ResultCell
set_option linter.unusedVariables false
set_option linter.unusedSimpArgs false
set_option linter.unusedSectionVars false
namespace Go.Creel
open Go.RowKit
def AtByte (s : ByteArray) (c : Nat) (a b i : Nat) : Prop := a ≤ i ∧ i < b ∧ byt s i = c ∧ ∀ j,a ≤ j → j < i → byt s j ≠ c
theorem AtByte.one {s : ByteArray} {c a b i j : Nat} (h : AtByte s c a b i) (k : AtByte s c a b j) : i = j := by
 obtain ⟨h1,h2,h3,h4⟩:=h
 obtain ⟨k1,k2,k3,k4⟩:=k
 rcases Nat.lt_trichotomy i j with e|e|e
 ·exact absurd h3 (k4 i h1 e)
 ·exact e
 ·exact absurd k3 (h4 j k1 e)
end Go.Creel
namespace Go.Proofs.YtaffgndickdbiaaGreatDoor
open Go.Creel Go.RowKit
theorem IndexOne_any (s : ByteArray) (c : UInt8) (w : World) :
 Calls Tryz.prog 229 #[.string s,.string ⟨#[c]⟩] w fun e w'=>e = .returned (.int .i64 (firstIdx s c))/\w=w':=by
 refine (Any.stringslite_Index_one { Tryz.lays143 with } s c w).mono ?_
 rintro e w' ⟨rfl,rfl⟩
 rw [Lib.firstIdx_eq]
 exact ⟨rfl,rfl⟩
set_option maxRecDepth 100000 in
theorem CutYes_any (s : ByteArray) (c : UInt8) (i : Nat) (w : World) (hs : s.size ≤ maxLen) (hi : firstIdx s c = i) (hl : i < s.size) :
 Calls Tryz.prog 173 #[.string s,.string ⟨#[c]⟩] w fun e w'=>e = .returned (.tuple #[.string (s.extract 0 i),.string (s.extract (i+1) s.size),.bool true])/\∃ n,w'=w.drewN n:=by
 have hI:=IndexOne_any s c w
 unfold maxLen at hs
 rw [hi] at hI
 have HI:=Lib.hid hI
 clear hI hi
 have hsl:s.size<=9223372036854775807:=by omega
 have H:Calls Tryz.prog 210 #[.string s,.string ⟨#[c]⟩] w fun e w'=>e = .returned (.tuple #[.string (s.extract 0 i),.string (s.extract (i+1) s.size),.bool true])/\∃ n,w'=w.drewN n:=by
  go_enter Tryz.func210,Tryz.ntmps210
  go_wp2_with fail
  refine HI.out.mono ?_
  rintro e w' ⟨rfl,rfl⟩
  go_wp2_with fail
  go_quiet (fail)
  go_wp2
  go_ret3
  exact ⟨rfl,_,rfl⟩
 have H':=Lib.hid H
 clear H HI hl hsl hs
 go_enter Tryz.func173,Tryz.ntmps173
 go_wp2_with fail
 refine H'.out.mono ?_
 rintro e w' ⟨rfl,n,rfl⟩
 go_wp2
 go_ret3
 exact ⟨rfl,_,rfl⟩
set_option maxRecDepth 100000 in
theorem CutNo_any (s : ByteArray) (c : UInt8) (w : World) (hi : firstIdx s c = -1) :
 Calls Tryz.prog 173 #[.string s,.string ⟨#[c]⟩] w fun e w'=>e = .returned (.tuple #[.string s,.string ByteArray.empty,.bool false])/\∃ n,w'=w.drewN n:=by
 have hI:=IndexOne_any s c w
 rw [hi] at hI
 have HI:=Lib.hid hI
 clear hI hi
 have H:Calls Tryz.prog 210 #[.string s,.string ⟨#[c]⟩] w fun e w'=>e = .returned (.tuple #[.string s,.string ByteArray.empty,.bool false])/\w'=w:=by
  go_enter Tryz.func210,Tryz.ntmps210
  go_wp2_with fail
  refine HI.out.mono ?_
  rintro e w' ⟨rfl,rfl⟩
  go_wp2
  go_ret3
  exact ⟨rfl,rfl⟩
 have H':=Lib.hid H
 clear H HI
 go_enter Tryz.func173,Tryz.ntmps173
 go_wp2_with fail
 refine H'.out.mono ?_
 rintro e w' ⟨rfl,rfl⟩
 go_wp2
 go_ret3
 exact ⟨rfl,0,rfl⟩
end Go.Proofs.YtaffgndickdbiaaGreatDoor
namespace Go.Creel
open Go.RowKit
def valN (s : ByteArray) : Nat → Nat
 | 0=>0
 | k+1=>10*valN s k+(byt s k-48)
def IsNum (s : ByteArray) (k : Nat) : Prop := ∀ j,j < k → 48 ≤ byt s j ∧ byt s j ≤ 57
def RecHead (s : ByteArray) (k : Nat) : Prop := 1 ≤ k ∧ k ≤ 4 ∧ k < s.size ∧ IsNum s k ∧ byt s 0 ≠ 48 ∧ byt s k = 32
theorem RecHead.one {s : ByteArray} {k m : Nat} (h : RecHead s k) (g : RecHead s m) : k = m := by
 obtain ⟨_,_,_,h4,_,h6⟩:=h
 obtain ⟨_,_,_,g4,_,g6⟩:=g
 rcases Nat.lt_trichotomy k m with e|e|e
 ·have:=g4 k e;omega
 ·exact e
 ·have:=h4 m e;omega
theorem valN_le {s : ByteArray} {k : Nat} (h : IsNum s k) : valN s k < 10 ^ k := by
 induction k with
 | zero=>simp [valN]
 | succ k ih =>
   have h1:=ih (fun j hj=>h j (by omega))
   have h2:=h k (by omega)
   simp only [valN,Nat.pow_succ]
   omega
def recNo (e : Int) : Rec × ByteArray × Int := (⟨ByteArray.empty,ByteArray.empty⟩,ByteArray.empty,e)
def recAt (s : ByteArray) (k n i : Nat) : Rec × ByteArray × Int :=
 if recFault ⟨s.extract (k+1) i,s.extract (i+1) (n-1)⟩≠0 then recNo (recFault ⟨s.extract (k+1) i,s.extract (i+1) (n-1)⟩)
 else if recText ⟨s.extract (k+1) i,s.extract (i+1) (n-1)⟩=s.extract 0 n then (⟨s.extract (k+1) i,s.extract (i+1) (n-1)⟩,s.extract n s.size,0) else recNo 3
def RecRes (s : ByteArray) (x : Rec × ByteArray × Int) : Prop :=
 ((¬ ∃ k,RecHead s k)/\x=recNo 3)\/∃ k,RecHead s k ∧
   ((s.size<valN s k/\x=recNo 7) ∨
     (valN s k<=s.size/\(valN s k<k+2\/byt s (valN s k-1)≠10)/\x=recNo 3) ∨
     (valN s k<=s.size/\k+2<=valN s k/\byt s (valN s k-1)=10/\(∀ j,k+1<=j->j<valN s k-1->byt s j≠61)/\x=recNo 3) ∨
     (valN s k<=s.size/\k+2<=valN s k/\byt s (valN s k-1)=10/\∃ i,AtByte s 61 (k+1) (valN s k-1) i/\x=recAt s k (valN s k) i))
theorem RecRes.one {s : ByteArray} {x y : Rec × ByteArray × Int} (h : RecRes s x) (g : RecRes s y) : x = y := by
 rcases h with ⟨hn,rfl⟩|⟨k,hk,h⟩
 ·rcases g with ⟨_,rfl⟩|⟨m,hm,_⟩
  ·rfl
  ·exact absurd ⟨m,hm⟩ hn
 ·rcases g with ⟨gn,_⟩|⟨m,hm,g⟩
  ·exact absurd ⟨k,hk⟩ gn
  ·obtain rfl:=hk.one hm
   rcases h with ⟨h1,rfl⟩|⟨h1,h2,rfl⟩|⟨h1,h2,h3,h4,rfl⟩|⟨h1,h2,h3,i,h4,rfl⟩
   ·rcases g with ⟨g1,rfl⟩|⟨g1,g2,rfl⟩|⟨g1,g2,g3,g4,rfl⟩|⟨g1,g2,g3,i,g4,rfl⟩
    ·rfl
    ·omega
    ·omega
    ·omega
   ·rcases g with ⟨g1,rfl⟩|⟨g1,g2,rfl⟩|⟨g1,g2,g3,g4,rfl⟩|⟨g1,g2,g3,i,g4,rfl⟩
    ·omega
    ·rfl
    ·rfl
    ·rcases h2 with h2|h2
     ·omega
     ·exact absurd g3 h2
   ·rcases g with ⟨g1,rfl⟩|⟨g1,g2,rfl⟩|⟨g1,g2,g3,g4,rfl⟩|⟨g1,g2,g3,i,g4,rfl⟩
    ·omega
    ·rfl
    ·rfl
    ·exact absurd g4.2.2.1 (h4 i g4.1 g4.2.1)
   ·rcases g with ⟨g1,rfl⟩|⟨g1,g2,rfl⟩|⟨g1,g2,g3,g4,rfl⟩|⟨g1,g2,g3,i',g4,rfl⟩
    ·omega
    ·rcases g2 with g2|g2
     ·omega
     ·exact absurd h3 g2
    ·exact absurd h4.2.2.1 (g4 i h4.1 h4.2.1)
    ·rw [h4.one g4]
open Classical in
noncomputable def recOf (s : ByteArray) : Rec × ByteArray × Int := if h : ∃ x,RecRes s x then Classical.choose h else recNo 3
theorem recOf_is {s : ByteArray} {x : Rec × ByteArray × Int} (h : RecRes s x) : recOf s = x := by
 have hex:∃ x,RecRes s x:=⟨x,h⟩
 unfold recOf
 rw [dif_pos hex]
 exact (Classical.choose_spec hex).one h
theorem recOf_head {s : ByteArray} (h : ¬ ∃ k,RecHead s k) : recOf s = recNo 3 := recOf_is (.inl ⟨h,rfl⟩)
theorem recOf_short {s : ByteArray} {k : Nat} (h : RecHead s k) (h1 : s.size < valN s k) : recOf s = recNo 7 := recOf_is (.inr ⟨k,h,.inl ⟨h1,rfl⟩⟩)
theorem recOf_end {s : ByteArray} {k : Nat} (h : RecHead s k) (h1 : valN s k ≤ s.size) (h2 : valN s k < k + 2 ∨ byt s (valN s k - 1) ≠ 10) : recOf s = recNo 3 := recOf_is (.inr ⟨k,h,.inr (.inl ⟨h1,h2,rfl⟩)⟩)
theorem recOf_none {s : ByteArray} {k : Nat} (h : RecHead s k) (h1 : valN s k ≤ s.size) (h2 : k + 2 ≤ valN s k) (h3 : byt s (valN s k - 1) = 10) (h4 : ∀ j,k + 1 ≤ j → j < valN s k - 1 → byt s j ≠ 61) : recOf s = recNo 3 :=
 recOf_is (.inr ⟨k,h,.inr (.inr (.inl ⟨h1,h2,h3,h4,rfl⟩))⟩)
theorem recOf_at {s : ByteArray} {k i : Nat} (h : RecHead s k) (h1 : valN s k ≤ s.size) (h2 : k + 2 ≤ valN s k) (h3 : byt s (valN s k - 1) = 10) (h4 : AtByte s 61 (k + 1) (valN s k - 1) i) : recOf s = recAt s k (valN s k) i :=
 recOf_is (.inr ⟨k,h,.inr (.inr (.inr ⟨h1,h2,h3,i,h4,rfl⟩))⟩)
theorem recAt_bad {s : ByteArray} {k n i : Nat} {f : Int} (h : recFault ⟨s.extract (k + 1) i,s.extract (i + 1) (n - 1)⟩ = f) (hf : f ≠ 0) : recAt s k n i = recNo f := by unfold recAt; rw [if_pos (by rw [h]; exact hf),h]
theorem recAt_odd {s : ByteArray} {k n i : Nat} (h : recFault ⟨s.extract (k + 1) i,s.extract (i + 1) (n - 1)⟩ = 0) (h2 : recText ⟨s.extract (k + 1) i,s.extract (i + 1) (n - 1)⟩ ≠ s.extract 0 n) : recAt s k n i = recNo 3 := by unfold recAt; rw [if_neg (by rw [h]; simp),if_neg h2]
theorem recAt_ok {s : ByteArray} {k n i : Nat} (h : recFault ⟨s.extract (k + 1) i,s.extract (i + 1) (n - 1)⟩ = 0) (h2 : recText ⟨s.extract (k + 1) i,s.extract (i + 1) (n - 1)⟩ = s.extract 0 n) : recAt s k n i = (⟨s.extract (k + 1) i,s.extract (i + 1) (n - 1)⟩,s.extract n s.size,0) := by unfold recAt; rw [if_neg (by rw [h]; simp),if_pos h2]
def recDigs : List UInt8 := [48,49,50,51,52,53,54,55,56,57]
theorem digs_has (x : UInt8) : recDigs.contains x = true ↔ 48 ≤ x.toNat ∧ x.toNat ≤ 57 := by
 rw [List.contains_iff_mem]
 unfold recDigs
 simp only [List.mem_cons,List.not_mem_nil,or_false,<-UInt8.toNat_inj,UInt8.reduceToNat]
 omega
theorem mem_dropWhile {p : UInt8 → Bool} {l : List UInt8} {x : UInt8} (hx : x ∈ l) (hp : p x = false) : x ∈ l.dropWhile p := by
 induction l with
 | nil=>cases hx
 | cons a l ih =>
   by_cases ha:p a=true
   ·rw [List.dropWhile_cons_of_pos ha]
    rcases List.mem_cons.1 hx with e|e
    ·rw [e,ha] at hp;cases hp
    ·exact ih e
   ·rw [List.dropWhile_cons_of_neg ha];exact hx
theorem trim_digs (l : List UInt8) : (Lib.trimS l recDigs = []) ↔ ∀ x ∈ l,48 ≤ x.toNat ∧ x.toNat ≤ 57 := by
 constructor
 ·intro h x hx
  cases hc:recDigs.contains x with
  | true=>exact (digs_has x).1 hc
  | false =>
    have h1:x∈Lib.trimRightS l recDigs:=by
     unfold Lib.trimRightS
     rw [List.mem_reverse]
     exact mem_dropWhile (by simpa using hx) hc
    have h2:x∈Lib.trimS l recDigs:=mem_dropWhile h1 hc
    rw [h] at h2;cases h2
 ·intro h
  have hall:∀ m:List UInt8,(∀ x∈m,recDigs.contains x=true)->m.dropWhile (recDigs.contains ·)=[]:=by
   intro m
   induction m with
   | nil=>intro _;rfl
   | cons a m ih =>
     intro hm
     rw [List.dropWhile_cons_of_pos (hm a (by simp))]
     exact ih (fun x hx=>hm x (by simp [hx]))
  unfold Lib.trimS Lib.trimRightS Lib.trimLeftS
  rw [hall l.reverse (fun x hx=>(digs_has x).2 (h x (by simpa using hx)))]
  rfl
theorem byt_list {s : ByteArray} {j : Nat} (h : j < s.size) : ∃ b,s.data.toList[j]? = some b ∧ b.toNat = byt s j := by
 have h1:j<s.data.toList.length:=by simpa using h
 refine ⟨s.data.toList[j],List.getElem?_eq_getElem h1,?_⟩
 unfold byt
 rw [List.getD_eq_getElem?_getD,List.getElem?_eq_getElem h1];rfl
theorem take_bytes {s : ByteArray} {k : Nat} (h : k ≤ s.size) : (s.extract 0 k).data.toList = s.data.toList.take k := by
 rw [Lib.extract_data,List.drop_zero,Nat.sub_zero]
theorem num_iff {s : ByteArray} {k : Nat} (h : k ≤ s.size) : (∀ x ∈ (s.extract 0 k).data.toList,48 ≤ x.toNat ∧ x.toNat ≤ 57) ↔ IsNum s k := by
 rw [take_bytes h]
 constructor
 ·intro hx j hj
  obtain ⟨b,hb,e⟩:=byt_list (s:=s) (j:=j) (by omega)
  rw [<-e]
  exact hx b (List.mem_of_getElem? (i:=j) (by rw [List.getElem?_take,if_pos hj];exact hb))
 ·intro hn x hx
  obtain ⟨j,hj,rfl⟩:=List.getElem_of_mem hx
  have hj':j<k:=by rw [List.length_take] at hj;omega
  obtain ⟨b,hb,e⟩:=byt_list (s:=s) (j:=j) (by omega)
  rw [List.getElem_take]
  have:s.data.toList[j]'(by rw [List.length_take] at hj;omega)=b:=by
   rw [List.getElem?_eq_getElem (by rw [List.length_take] at hj;omega)] at hb
   exact Option.some.inj hb
  rw [this,e]
  exact hn j hj'
theorem decFrom_num {s : ByteArray} : ∀ {k : Nat},k ≤ s.size → IsNum s k → Lib.decFrom 0 (s.data.toList.take k) = some (valN s k)
 | 0,_,_=>rfl
 | k+1,h,hn=>by
   have ih:=decFrom_num (k:=k) (by omega) (fun j hj=>hn j (by omega))
   obtain ⟨b,hb,e⟩:=byt_list (s:=s) (j:=k) (by omega)
   have hd:=hn k (by omega)
   have:=Lib.decFrom_take s.data.toList k 0 (valN s k) b (byt s k-48) ih hb (by unfold Lib.digitVal;rw [e,if_pos hd])
   rw [this]
   simp only [valN]
   congr 1
   omega
theorem atoi_num {s : ByteArray} {k : Nat} (h1 : 1 ≤ k) (h : k ≤ s.size) (hn : IsNum s k) : Lib.atoi (s.extract 0 k).data.toList = some (valN s k : Int) := by
 rw [take_bytes h]
 have hd:=decFrom_num h hn
 obtain ⟨b,hb,e⟩:=byt_list (s:=s) (j:=0) (by omega)
 have h0:=hn 0 (by omega)
 obtain ⟨r,hr⟩:∃ r,s.data.toList.take k=b::r:=by
  cases hl:s.data.toList with
  | nil=>rw [hl] at hb;cases hb
  | cons a t =>
    rw [hl] at hb
    obtain rfl:a=b:=by simpa using hb
    obtain ⟨m,rfl⟩:∃ m,k=m+1:=⟨k-1,by omega⟩
    exact ⟨t.take m,by rw [List.take_succ_cons]⟩
 rw [hr] at hd ⊢
 have hb1:(b==45)=false:=by
  rw [beq_eq_false_iff_ne];intro e2;rw [e2] at e;have:(45:UInt8).toNat=45:=rfl;omega
 have hb2:(b==43)=false:=by
  rw [beq_eq_false_iff_ne];intro e2;rw [e2] at e;have:(43:UInt8).toNat=43:=rfl;omega
 unfold Lib.atoi
 simp only [hb1,hb2,Bool.false_eq_true,if_false]
 unfold Lib.decNat
 simp [hd]
theorem ext_ext {s : ByteArray} {a b i j : Nat} (hj : a + j ≤ b) : (s.extract a b).extract i j = s.extract (a + i) (a + j) := by
 apply ext_bytes
 rw [Lib.extract_data,Lib.extract_data,Lib.extract_data,List.drop_take,List.drop_drop,List.take_take]
 congr 1
 omega
theorem byt_part {s : ByteArray} {a b j : Nat} (hb : b ≤ s.size) (hj : a + j < b) : byt (s.extract a b) j = byt s (a + j) := by
 unfold byt
 rw [Lib.extract_data,List.getD_eq_getElem?_getD,List.getD_eq_getElem?_getD,List.getElem?_take,if_pos (by omega),List.getElem?_drop]
open Go.RowKit
theorem results_rec3 {fn : Func} {p u x : Tmp} {ty : TypeId} (h : fn.results = #[.cell p ty,.tmp u,.tmp x]) (tmps : Array Value) (P : Program) (w : World) :
 (results fn tmps).run P w =
   ((asAddr (tmps.getD p undef)).run P w).andThen fun a w₁=>((loadVar ty a).run P w₁).andThen fun v w₂ => .ok (.tuple #[v,tmps.getD u undef,tmps.getD x undef]) w₂:=by
 simp only [results,h]
 simp [Sem.run_bind,Result.andThen]
def RBox (ty : TypeId) (b : Nat) (key value : ByteArray) (w : World) : Prop := w.heap[b]? = some (.cells #[.string key,.string value] ty (0,0))
theorem RBox.lt {ty : TypeId} {b : Nat} {x y : ByteArray} {w : World} (h : RBox ty b x y w) : b < w.heap.size := (Array.getElem?_eq_some_iff.1 h).1
theorem RBox.on {ty : TypeId} {b : Nat} {x y : ByteArray} {w w' : World} (h : RBox ty b x y w) (hb : Below w.heap.size w w') : RBox ty b x y w' := (hb.block b h.lt).trans h
theorem RBox.facts {ty : TypeId} {b : Nat} {x y : ByteArray} {w : World} (h : RBox ty b x y w) : w.cell? ⟨b,0,none⟩ = some (.string x) ∧ w.cell? ⟨b,1,none⟩ = some (.string y) ∧ w.frozen? ⟨b,0,none⟩ = false ∧ w.frozen? ⟨b,1,none⟩ = false := by
 have h':=h
 unfold RBox at h'
 exact ⟨cellAt h' rfl,cellAt h' rfl,frozen_of_row w b 0 _ ty h',frozen_of_row w b 1 _ ty h'⟩
theorem head_at {s : ByteArray} {k m : Nat} (h1 : byt s k = 32) (h2 : ∀ j,j < k → byt s j ≠ 32) (h : RecHead s m) : m = k := by
 obtain ⟨_,_,_,h4,_,h6⟩:=h
 rcases Nat.lt_trichotomy m k with e|e|e
 ·exact absurd h6 (h2 m e)
 ·exact e
 ·have:=h4 k e;omega
open Go.RowKit
theorem recRes_is (s : ByteArray) : RecRes s (recOf s) := by
 have hex:∃ x,RecRes s x:=by
  by_cases h:∃ k,RecHead s k
  ·obtain ⟨k,hk⟩:=h
   by_cases h1:s.size<valN s k
   ·exact ⟨_,.inr ⟨k,hk,.inl ⟨h1,rfl⟩⟩⟩
   ·by_cases h2:valN s k<k+2\/byt s (valN s k-1)≠10
    ·exact ⟨_,.inr ⟨k,hk,.inr (.inl ⟨by omega,h2,rfl⟩)⟩⟩
    ·have h3:k+2<=valN s k:=by omega
     have h4:byt s (valN s k-1)=10:=by omega
     by_cases h5:∀ j,k+1<=j->j<valN s k-1->byt s j≠61
     ·exact ⟨_,.inr ⟨k,hk,.inr (.inr (.inl ⟨by omega,h3,h4,h5,rfl⟩))⟩⟩
     ·have h6:∃ j,k+1<=j/\j<valN s k-1/\byt s j=61:=by
       refine Classical.byContradiction fun hn=>h5 fun j a b c=>hn ⟨j,a,b,c⟩
      have h7:∃ i,AtByte s 61 (k+1) (valN s k-1) i:=by
       obtain ⟨j,a,b,c⟩:=h6
       induction j using Nat.strongRecOn with
       | ind j ih =>
         by_cases hq:∃ q,k+1<=q/\q<j/\byt s q=61
         ·obtain ⟨q,q1,q2,q3⟩:=hq
          exact ih q q2 q1 (by omega) q3
         ·exact ⟨j,a,b,c,fun q q1 q2 q3=>hq ⟨q,q1,q2,q3⟩⟩
      obtain ⟨i,hi⟩:=h7
      exact ⟨_,.inr ⟨k,hk,.inr (.inr (.inr ⟨by omega,h3,h4,i,hi,rfl⟩))⟩⟩
  ·exact ⟨_,.inl ⟨h,rfl⟩⟩
 obtain ⟨x,hx⟩:=hex
 rw [recOf_is hx]
 exact hx
theorem recOf_less {s : ByteArray} (h : (recOf s).2.2 = 0) : (recOf s).2.1.size < s.size ∧ (recOf s).1.key.size ≤ s.size ∧ (recOf s).1.value.size ≤ s.size := by
 have hr:=recRes_is s
 generalize recOf s=x at *
 rcases hr with ⟨_,rfl⟩|⟨k,hk,⟨_,rfl⟩|⟨_,_,rfl⟩|⟨_,_,_,_,rfl⟩|⟨h1,h2,h3,i,h4,rfl⟩⟩
 ·cases h
 ·cases h
 ·cases h
 ·cases h
 ·by_cases hf:recFault ⟨s.extract (k+1) i,s.extract (i+1) (valN s k-1)⟩=0
  ·by_cases ht:recText ⟨s.extract (k+1) i,s.extract (i+1) (valN s k-1)⟩=s.extract 0 (valN s k)
   ·rw [recAt_ok hf ht]
    refine ⟨?_,?_,?_⟩<;>simp<;>omega
   ·rw [recAt_odd hf ht] at h;cases h
  ·rw [recAt_bad rfl hf] at h
   exact absurd h hf
noncomputable def paxGo : Nat → ByteArray → List Rec → List Rec × Int
 | 0,_,acc=>(acc,0)
 | n+1,s,acc=>if s.size=0 then (acc,0) else if (recOf s).2.2=0 then paxGo n (recOf s).2.1 (acc++[(recOf s).1]) else ([],(recOf s).2.2)
theorem paxGo_done {n : Nat} {s : ByteArray} {acc : List Rec} (h : s.size = 0) : paxGo n s acc = (acc,0) := by
 cases n with
 | zero=>rfl
 | succ n=>simp only [paxGo];rw [if_pos h]
theorem paxGo_bad {n : Nat} {s : ByteArray} {acc : List Rec} (h : s.size ≠ 0) (hn : s.size ≤ n) (he : (recOf s).2.2 ≠ 0) : paxGo n s acc = ([],(recOf s).2.2) := by
 obtain ⟨m,rfl⟩:∃ m,n=m+1:=⟨n-1,by omega⟩
 simp only [paxGo];rw [if_neg h,if_neg he]
theorem paxGo_step {n : Nat} {s : ByteArray} {acc : List Rec} (h : s.size ≠ 0) (hn : s.size ≤ n) (he : (recOf s).2.2 = 0) : paxGo n s acc = paxGo (n - 1) (recOf s).2.1 (acc ++ [(recOf s).1]) := by
 obtain ⟨m,rfl⟩:∃ m,n=m+1:=⟨n-1,by omega⟩
 simp only [paxGo];rw [if_neg h,if_pos he];rfl
noncomputable def paxOf (s : ByteArray) : List Rec × Int :=
 if (paxGo s.size s []).2≠0 then ([],(paxGo s.size s []).2) else if paxFault (paxGo s.size s []).1≠0 then ([],paxFault (paxGo s.size s []).1) else ((paxGo s.size s []).1,0)
open Go.RowKit
def recFind : List Rec → ByteArray → ByteArray × Bool
 | [],_=>(ByteArray.empty,false)
 | r::t,key=>if r.key=key then (r.value,true) else recFind t key
theorem recFind_drop {l : List Rec} {k : Nat} (h : k < l.length) (key : ByteArray) : recFind (l.drop k) key = if (rk l k).key = key then ((rk l k).value,true) else recFind (l.drop (k + 1)) key := by
 rw [List.drop_eq_getElem_cons h]
 simp [recFind,rk,List.getD_eq_getElem?_getD,List.getElem?_eq_getElem h]
end Go.Creel
namespace Go.Proofs.YtaffgndickdbiaaGreatDoor
open Go.Creel Go.RowKit
set_option maxRecDepth 100000 in
set_option maxHeartbeats 400000 in
theorem Find_any {N : Nat} (v : Value) (l : List Rec) (key : ByteArray) (w : World) (h : SliceC N 2 (RecC N) w [v] l) :
 Calls Tryz.prog 121 #[v,.string key] w fun e w'=>e = .returned (.tuple #[.string (recFind l key).1,.bool (recFind l key).2])/\Below w.heap.size w w':=by
 rcases recs_cases h with ⟨a,cap,rfl,rfl⟩|⟨b,off,cap,rfl,hpos,hle,hm,_,hc⟩
 ·go_enter Tryz.func121,Tryz.ntmps121
  go_wp2
  go_loop [7,10] (fun _ i=>i = .int .i64 0) (fun _ _=>0)
  case atStart=>rfl
  case round =>
   obtain rfl:=hrel
   go_wp2
   go_ret2
   exact ⟨rfl,Below.refl _ _⟩
 ·unfold maxLen at hm
  have hbl:b<w.heap.size:=World.block_lt_of_cell? w _ (hc 0 hpos).1.1
  have Hc:=Lib.hid hc
  have HF:=Lib.hid (show recFind l key=recFind (l.drop 0) key by simp)
  generalize hp:recFind l key=p at *
  clear hc h hp
  go_enter Tryz.func121,Tryz.ntmps121
  go_wp2
  go_loopw [7,10] (fun _ i wr=>∃ k:Nat,k<=l.length/\i = .int .i64 k/\Hid (p=recFind (l.drop k) key)/\Below w.heap.size w wr) (fun _ i _=>l.length-(intOf i).toNat)
  case atStart=>exact ⟨0,by omega,rfl,HF,Below.refl _ _⟩
  case round =>
   obtain ⟨k,hk,rfl,HP,hB⟩:=hrel
   by_cases hlt:k<l.length
   ·obtain ⟨⟨hc0,hc1⟩,_⟩:=Hc.out k hlt
    rw [<-hB.cell (p:=⟨b,off+k*2,none⟩) hbl] at hc0
    rw [<-hB.cell (p:=⟨b,off+k*2+1,none⟩) hbl] at hc1
    have HS:=Lib.hid (recFind_drop hlt key)
    have HB:=Lib.hid hB
    have hsz:=hB.size
    clear hB
    by_cases he:(rk l k).key=key
    ·have hb:=seq_t he
     have HE:=Lib.hid he
     clear he
     go_wp2
     go_ret2
     exact ⟨ret_sb (by rw [HP.out,HS.out,if_pos HE.out]),HB.out.alloc hsz _⟩
    ·have hb:=seq_f he
     have HE:=Lib.hid he
     clear he
     go_wp2
     go_roundw
     case rel=>exact ⟨k+1,by omega,by go_num,by have:=HP.out;rw [HS.out,if_neg HE.out] at this;exact this,HB.out.alloc hsz _⟩
     case measure=>simp [intOf];omega
   ·have hk':k=l.length:=by omega
    subst hk'
    go_wp2
    go_ret2
    exact ⟨ret_sb (by rw [HP.out,List.drop_length];rfl),hB⟩
end Go.Proofs.YtaffgndickdbiaaGreatDoor
namespace Go.Creel
open Go.RowKit
def isDig (c : UInt8) : Bool := decide (48 ≤ c.toNat ∧ c.toNat ≤ 57)
def decVal (l : List UInt8) : Nat := l.foldl (fun n c => 10 * n + (c.toNat - 48)) 0
theorem decVal_snoc (l : List UInt8) (c : UInt8) : decVal (l ++ [c]) = 10 * decVal l + (c.toNat - 48) := by simp [decVal]
theorem dig48 {x : Nat} (h : x < 10) : (UInt8.ofNat (48 + x)).toNat - 48 = x := by rw [dig_is x h]; omega
theorem dig48_is {x : Nat} (h : x < 10) : isDig (UInt8.ofNat (48 + x)) = true := by
 unfold isDig
 rw [dig_is x h]
 simp
 omega
theorem decVal_dec (u : Nat) : decVal (Lib.decDigits u) = u := by
 induction u using Nat.strongRecOn with
 | _ u ih =>
   rw [Lib.decDigits]
   by_cases h:u<10
   ·rw [dif_pos h]
    simp [decVal]
    omega
   ·rw [dif_neg h,decVal_snoc,ih (u / 10) (by omega),dig48 (by omega)]
    omega
theorem dec_digs (u : Nat) : (Lib.decDigits u).all isDig = true := by
 induction u using Nat.strongRecOn with
 | _ u ih =>
   rw [Lib.decDigits]
   by_cases h:u<10
   ·rw [dif_pos h,List.all_cons,dig48_is h]
    rfl
   ·rw [dif_neg h,List.all_append,ih (u / 10) (by omega)]
    rw [List.all_cons,dig48_is (Nat.mod_lt u (by decide:0<10))]
    rfl
theorem decVal_rep (k : Nat) (l : List UInt8) : decVal (List.replicate k 48 ++ l) = decVal l := by
 induction k with
 | zero=>rfl
 | succ k ih =>
   rw [List.replicate_succ,List.cons_append]
   unfold decVal at ih ⊢
   rw [List.foldl_cons]
   exact ih
theorem decVal_digs9 {N : Nat} (h : N < 10 ^ 9) : decVal (digs9 N 9) = N := by rw [← pad9 h,decVal_rep,decVal_dec]
theorem digs9_digs (N k : Nat) : (digs9 N k).all isDig = true := by
 rw [List.all_eq_true]
 intro c hc
 obtain ⟨i,_,rfl⟩:=List.mem_map.1 hc
 exact dig48_is (Nat.mod_lt _ (by decide))
def digitsP (l : List UInt8) (most : Nat) : Nat × Bool := if l.length < 1 ∨ most < l.length then (0,false) else if l.all isDig = true then (decVal l,true) else (0,false)
theorem digitsP_ok {l : List UInt8} {most : Nat} (h1 : 1 ≤ l.length) (h2 : l.length ≤ most) (h3 : l.all isDig = true) : digitsP l most = (decVal l,true) := by
 unfold digitsP
 rw [if_neg (by omega),if_pos h3]
def dotAt (l : List UInt8) : Nat := (l.takeWhile (· != 46)).length
structure Raw where
 below:Bool
 second:Nat
 nano:Nat
 ok:Bool
def restOf (l : List UInt8) : List UInt8 := if l.head? = some 45 then l.tail else l
def belowOf (l : List UInt8) : Bool := decide (l.head? = some 45)
def partPad (l : List UInt8) : List UInt8 := l ++ List.replicate (9 - l.length) 48
def rawP (l : List UInt8) : Raw :=
 if dotAt (restOf l)<(restOf l).length then
  ⟨belowOf l,(digitsP ((restOf l).take (dotAt (restOf l))) 13).1,(digitsP (partPad ((restOf l).drop (dotAt (restOf l)+1))) 9).1,(digitsP ((restOf l).take (dotAt (restOf l))) 13).2&&(digitsP (partPad ((restOf l).drop (dotAt (restOf l)+1))) 9).2⟩
 else ⟨belowOf l,(digitsP (restOf l) 13).1,0,(digitsP (restOf l) 13).2⟩
def digCount : Nat → List UInt8 → Nat
 | 0,_=>0
 | _,[]=>0
 | m+1,c::l=>if isDig c=true then digCount m l+1 else 0
theorem digCount_app {a b : List UInt8} {m : Nat} (h : a.all isDig = true) (hl : a.length ≤ m) (hb : ∀ c,b.head? = some c → isDig c = false) : digCount m (a ++ b) = a.length := by
 induction a generalizing m with
 | nil =>
   cases m with
   | zero=>rfl
   | succ m =>
     cases b with
     | nil=>rfl
     | cons c b =>
       have:=hb c rfl
       simp [digCount,this]
 | cons c a ih =>
   cases m with
   | zero=>simp at hl
   | succ m =>
     rw [List.all_cons,Bool.and_eq_true] at h
     rw [List.cons_append,digCount,if_pos h.1,ih h.2 (by simpa using hl)]
     rfl
def fracOf (l : List UInt8) : Nat := decVal (l.take (digCount 9 l)) * 10 ^ (9 - digCount 9 l)
def rawR (l : List UInt8) : Raw :=
 ⟨belowOf l,decVal ((restOf l).take (digCount 14 (restOf l))),if (restOf l)[digCount 14 (restOf l)]?=some 46 then fracOf ((restOf l).drop (digCount 14 (restOf l)+1)) else 0,true⟩
def fixS (b : Bool) (s n : Nat) : Int := if b = true then (if 0 < n then -(s : Int) - 1 else -(s : Int)) else s
def fixN (b : Bool) (n : Nat) : Int := if b = true ∧ 0 < n then 1000000000 - (n : Int) else n
def timeAns (l : List UInt8) (r : Raw) : Int × Int × Int := if r.ok = true ∧ timeText (fixS r.below r.second r.nano) (fixN r.below r.nano) = (ofL l,0) then (fixS r.below r.second r.nano,fixN r.below r.nano,0) else (0,0,3)
theorem timeText_list {a b : Int} (h : timeFault a b = 0) : ∃ frac,(timeText a b).1 = ofL ((if a < 0 then [45] else []) ++ Lib.decDigits (timeS a b).toNat ++ frac) ∧ ((timeN a b = 0 ∧ frac = []) ∨ ∃ k,k ≤ 9 ∧ 0 < timeN a b ∧ timeN a b < 1000000000 ∧ (timeN a b).toNat % 10 ^ (9 - k) = 0 ∧ frac = 46 :: digs9 (timeN a b).toNat k) := by
 obtain ⟨h1,h2,h3,h4⟩:=timeFault_ok h
 have hS:Lib.itoa (timeS a b)=Lib.decDigits (timeS a b).toNat:=by
  unfold Lib.itoa
  rw [if_neg (by unfold timeS;split<;>(try split)<;>omega)]
 have hH:timeHead a b=ofL ((if a<0 then [45] else [])++Lib.decDigits (timeS a b).toNat):=by
  unfold timeHead timeSign
  rw [hS,<-ofL_append]
  congr 1
  split<;>rfl
 have hN:0<=timeN a b/\timeN a b<1000000000:=by unfold timeN;split<;>omega
 unfold timeText
 rw [if_neg (by simpa using h)]
 by_cases h0:timeN a b=0
 ·rw [if_pos h0]
  exact ⟨[],by simpa using hH,.inl ⟨h0,rfl⟩⟩
 ·rw [if_neg h0]
  obtain ⟨k,hk,hk0,hk1⟩:∃ k,k<=9/\(timeN a b).toNat % 10 ^ (9-k)=0/\(k=0\/(timeN a b).toNat % 10 ^ (10-k)≠0):=by
   generalize (timeN a b).toNat=N
   have:∀ j,j<=9->N % 10 ^ (9-j)=0->∃ k,k<=9/\N % 10 ^ (9-k)=0/\(k=0\/N % 10 ^ (10-k)≠0):=by
    intro j
    induction j with
    | zero=>exact fun _ h=>⟨0,by omega,h,.inl rfl⟩
    | succ j ih =>
      intro hj hm
      by_cases hz:N % 10 ^ (9-j)=0
      ·exact ih (by omega) hz
      ·exact ⟨j+1,hj,hm,.inr (by rw [show 10-(j+1)=9-j by omega];exact hz)⟩
   exact this 9 (by omega) (by simp [Nat.mod_one])
  refine ⟨46::digs9 (timeN a b).toNat k,?_,.inr ⟨k,hk,by omega,hN.2,hk0,rfl⟩⟩
  show timeHead a b++ofL [46]++ofL (Lib.trimRightB (digs9 (timeN a b).toNat 9) 48)=_
  rw [trim9 hk hk0 hk1,hH,ofL_append,ofL_append,List.append_assoc,List.append_assoc,List.append_assoc]
  simp
theorem dec_ne (u : Nat) : Lib.decDigits u ≠ [] := by
 intro h
 have h1:=Lib.decDigits_length u
 have h2:=Lib.nDigits_pos u
 rw [h] at h1
 simp at h1
 omega
theorem head_app_ne {a b : List UInt8} (h : a ≠ []) : (a ++ b).head? = a.head? := by cases a; exact absurd rfl h; rfl
theorem dec_head (u : Nat) : (Lib.decDigits u).head? ≠ some 45 := by
 intro h
 cases hd:Lib.decDigits u with
 | nil=>rw [hd] at h;cases h
 | cons c l =>
   rw [hd] at h
   simp at h
   subst h
   have:=dec_digs u
   rw [hd,List.all_cons,Bool.and_eq_true] at this
   exact absurd this.1 (by decide)
theorem rest_text (p : Prop) [Decidable p] {d f : List UInt8} (hd : d ≠ []) (h : d.head? ≠ some 45) : restOf ((if p then [45] else []) ++ d ++ f) = d ++ f ∧ belowOf ((if p then [45] else []) ++ d ++ f) = decide p := by
 by_cases hp:p
 ·rw [if_pos hp]
  simp [restOf,belowOf,hp]
 ·rw [if_neg hp]
  have:(d++f).head?≠some 45:=by rw [head_app_ne hd];exact h
  simp only [List.nil_append]
  unfold restOf belowOf
  rw [if_neg this,decide_eq_false this,decide_eq_false hp]
  exact ⟨rfl,rfl⟩
theorem takeWhile_digs {a b : List UInt8} (h : a.all isDig = true) : (a ++ b).takeWhile (· != 46) = a ++ b.takeWhile (· != 46) := by
 apply List.takeWhile_append_of_pos
 intro c hc
 have:=List.all_eq_true.1 h c hc
 by_cases e:c=46
 ·subst e;exact absurd this (by decide)
 ·simpa using e
theorem dotAt_digs {a b : List UInt8} (h : a.all isDig = true) : dotAt (a ++ 46 :: b) = a.length := by
 unfold dotAt
 rw [takeWhile_digs h]
 simp
theorem dotAt_none {a : List UInt8} (h : a.all isDig = true) : dotAt a = a.length := by
 have:=takeWhile_digs (b:=[]) h
 rw [List.append_nil] at this
 unfold dotAt
 rw [this]
 simp
theorem fracOf_digs {N k : Nat} (hk : k ≤ 9) (hN : N < 10 ^ 9) (h0 : N % 10 ^ (9 - k) = 0) : fracOf (digs9 N k) = N := by
 have hc:=digCount_app (m:=9) (b:=[]) (digs9_digs N k) (by rw [digs9_len];exact hk) (fun c hc=>by cases hc)
 rw [List.append_nil,digs9_len] at hc
 unfold fracOf
 rw [hc,List.take_of_length_le (by rw [digs9_len];omega)]
 have:∀ j,j<=9->decVal (digs9 N j)=N / 10 ^ (9-j):=by
  intro j
  induction j with
  | zero=>intro _;rw [Nat.div_eq_of_lt (by simpa using hN)];rfl
  | succ j ih =>
    intro hj
    rw [digs9_succ,decVal_snoc,ih (by omega)]
    have e:(dig9 N j).toNat-48=N / 10 ^ (8-j) % 10:=by rw [dig9_toNat];omega
    have e2:9-j=(8-j)+1:=by omega
    have e3:9-(j+1)=8-j:=by omega
    rw [e,e2,e3,Nat.pow_succ,<-Nat.div_div_eq_div_mul]
    omega
 rw [this k hk]
 exact Nat.div_mul_cancel (Nat.dvd_of_mod_eq_zero h0)
theorem partPad_digs {N k : Nat} (hk : k ≤ 9) (h0 : N % 10 ^ (9 - k) = 0) : partPad (digs9 N k) = digs9 N 9 := by
 unfold partPad
 rw [digs9_len]
 apply List.ext_getElem?
 intro i
 by_cases hi:i<k
 ·rw [List.getElem?_append_left (by rw [digs9_len];exact hi),digs9_at N hi,digs9_at N (by omega)]
 ·rw [List.getElem?_append_right (by rw [digs9_len];omega),digs9_len]
  by_cases hi9:i<9
  ·rw [digs9_at N hi9,List.getElem?_replicate,if_pos (by omega)]
   obtain ⟨q,rfl⟩:=Nat.dvd_of_mod_eq_zero h0
   have e1:9-k=(8-i)+((i-k)+1):=by omega
   have:10 ^ (9-k)*q / 10 ^ (8-i) % 10=0:=by
    rw [e1,Nat.pow_add,Nat.mul_assoc,Nat.mul_div_cancel_left _ (Nat.pos_of_ne_zero (by simp)),Nat.pow_succ,Nat.mul_comm (10 ^ (i-k)) 10,Nat.mul_assoc,Nat.mul_mod_right]
   unfold dig9
   rw [this]
   rfl
  ·rw [List.getElem?_replicate,if_neg (by omega),List.getElem?_eq_none (by rw [digs9_len];omega)]
theorem fix_is {a b : Int} (h : timeFault a b = 0) : fixS (decide (a < 0)) (timeS a b).toNat (timeN a b).toNat = a ∧ fixN (decide (a < 0)) (timeN a b).toNat = b := by
 obtain ⟨h1,h2,h3,h4⟩:=timeFault_ok h
 unfold fixS fixN timeS timeN
 by_cases ha:a<0
 ·by_cases hb:0<b
  ·simp [ha,hb]
   constructor
   ·rw [if_pos (by omega)];omega
   ·omega
  ·have:b=0:=by omega
   subst this
   simp [ha]
   omega
 ·simp [ha]
  omega
theorem raw_both {a b : Int} (h : timeFault a b = 0) {l : List UInt8} (hl : (timeText a b).1 = ofL l) :
 (rawP l).below=decide (a<0)/\(rawP l).second=(timeS a b).toNat/\(rawP l).nano=(timeN a b).toNat/\(rawP l).ok=true ∧
 (rawR l).below=decide (a<0)/\(rawR l).second=(timeS a b).toNat/\(rawR l).nano=(timeN a b).toNat:=by
 obtain ⟨h1,h2,h3,h4⟩:=timeFault_ok h
 obtain ⟨f,hf,hcase⟩:=timeText_list h
 have hl2:l=(if a<0 then [45] else [])++Lib.decDigits (timeS a b).toNat++f:=by
  rw [hf] at hl
  have:=congrArg (fun s:ByteArray=>s.data.toList) hl
  simpa [ofL] using this.symm
 have hS0:0<=timeS a b/\timeS a b<=1099511627776:=by unfold timeS;split<;>(try split)<;>omega
 have hlen:(Lib.decDigits (timeS a b).toNat).length<=13:=by
  rw [Lib.decDigits_length]
  exact nDigits_le 12 _ (by have:(10:Nat) ^ 13=10000000000000:=by decide
                            omega)
 have hne:=dec_ne (timeS a b).toNat
 have hd:=dec_digs (timeS a b).toNat
 have hv:=decVal_dec (timeS a b).toNat
 obtain ⟨hr,hb⟩:=rest_text (a<0) (f:=f) hne (dec_head (timeS a b).toNat)
 rw [<-hl2] at hr hb
 have hpos:1<=(Lib.decDigits (timeS a b).toNat).length:=by
  rcases Nat.eq_zero_or_pos (Lib.decDigits (timeS a b).toNat).length with h|h
  ·exact absurd (List.eq_nil_of_length_eq_zero h) hne
  ·exact h
 generalize Lib.decDigits (timeS a b).toNat=d at *
 rcases hcase with ⟨hN,rfl⟩|⟨k,hk,hN0,hN1,hk0,rfl⟩
 ·rw [List.append_nil] at hr
  have e1:=dotAt_none hd
  have e2:=digCount_app (m:=14) (b:=[]) hd (by omega) (fun c hc=>by cases hc)
  rw [List.append_nil] at e2
  have e3:=digitsP_ok hpos hlen hd
  unfold rawP rawR
  rw [hr,hb,e1,e2,if_neg (by omega),e3,hv,hN,List.take_of_length_le (Nat.le_refl _),hv,List.getElem?_eq_none (Nat.le_refl _)]
  exact ⟨rfl,rfl,rfl,rfl,rfl,rfl,rfl⟩
 ·have e1:=dotAt_digs (b:=digs9 (timeN a b).toNat k) hd
  have e2:=digCount_app (m:=14) (b:=46::digs9 (timeN a b).toNat k) hd (by omega) (fun c hc=>by simp at hc;subst hc;decide)
  have e3:=digitsP_ok hpos hlen hd
  have hN9:(timeN a b).toNat<10 ^ 9:=by have:(10:Nat) ^ 9=1000000000:=by decide
                                        omega
  have e4:digitsP (digs9 (timeN a b).toNat 9) 9=((timeN a b).toNat,true):=by
   rw [digitsP_ok (by rw [digs9_len];omega) (by rw [digs9_len];omega) (digs9_digs _ _),decVal_digs9 hN9]
  have e5:(d++46::digs9 (timeN a b).toNat k).drop (d.length+1)=digs9 (timeN a b).toNat k:=by
   rw [List.drop_append]
   simp
  have e6:(d++46::digs9 (timeN a b).toNat k)[d.length]?=some 46:=by
   rw [List.getElem?_append_right (Nat.le_refl _)]
   simp
  unfold rawP rawR
  rw [hr,hb,e1,e2,if_pos (by simp),e5,List.take_left,e3,hv,partPad_digs hk hk0,e4,e6,if_pos rfl,fracOf_digs hk hN9 hk0]
  exact ⟨rfl,rfl,rfl,rfl,rfl,rfl,rfl⟩
theorem timeText_fault {a b : Int} {s : ByteArray} (h : timeText a b = (s,0)) : timeFault a b = 0 := by
 refine Classical.byContradiction fun hn=>?_
 unfold timeText at h
 rw [if_pos hn] at h
 exact hn (congrArg Prod.snd h)
theorem time_both (l : List UInt8) : timeAns l (rawP l) = timeAns l (rawR l) := by
 have hRok:(rawR l).ok=true:=rfl
 have key:∀ a b,timeText a b=(ofL l,0)->timeAns l (rawP l)=(a,b,0)/\timeAns l (rawR l)=(a,b,0):=by
  intro a b h
  have h0:=timeText_fault h
  obtain ⟨p1,p2,p3,p4,r1,r2,r3⟩:=raw_both (l:=l) h0 (by rw [h])
  obtain ⟨f1,f2⟩:=fix_is h0
  unfold timeAns
  rw [p1,p2,p3,p4,r1,r2,r3,hRok,f1,f2,if_pos ⟨rfl,h⟩]
  exact ⟨rfl,rfl⟩
 by_cases hp:(rawP l).ok=true/\timeText (fixS (rawP l).below (rawP l).second (rawP l).nano) (fixN (rawP l).below (rawP l).nano)=(ofL l,0)
 ·obtain ⟨k1,k2⟩:=key _ _ hp.2
  rw [k1,k2]
 ·by_cases hr:(rawR l).ok=true/\timeText (fixS (rawR l).below (rawR l).second (rawR l).nano) (fixN (rawR l).below (rawR l).nano)=(ofL l,0)
  ·obtain ⟨k1,k2⟩:=key _ _ hr.2
   rw [k1,k2]
  ·unfold timeAns
   rw [if_neg hp,if_neg hr]
end Go.Creel
