/- A part of the proof. -/
import Derived.Test.YtaffgndickdbiaaGreatDoorV06
import Derived.Laws.RangeAny
import Derived.Laws.Runes
import Derived.WalkMore
import Derived.Scope
import Derived.Deep.LoopGhost
import Derived.Lib.OthersKept
import Derived.StillTailTactics
set_option linter.unusedVariables false
set_option linter.unusedSimpArgs false
set_option maxRecDepth 100000
set_option maxHeartbeats 2000000
namespace Go.Creel
def A7o (width : Int) : Int × Int := if 2 ≤ width ∧ width ≤ 12 then (8 ^ (width - 1).toNat - 1,0) else (0,4)
theorem B2k {W : Nat} (h1 : 2 ≤ W) (h2 : W ≤ 12) : A7o (W : Int) = (((8 ^ (W - 1) : Nat) : Int) - 1,0) := by
 have:((W:Int)-1).toNat=W-1:=by omega
 simp only [A7o,this];rw [if_pos (by omega)];simp
theorem eleven {n : Int} (h1 : 2 ≤ n) (h2 : n ≤ 12) : n = 2 ∨ n = 3 ∨ n = 4 ∨ n = 5 ∨ n = 6 ∨ n = 7 ∨ n = 8 ∨ n = 9 ∨ n = 10 ∨ n = 11 ∨ n = 12 := by omega
def C2w : Nat → Nat → List UInt8
 | 0,_=>[]
 | k+1,n=>UInt8.ofNat (48+n / 8 ^ k % 8)::C2w k n
theorem A1v (k n : Nat) : (C2w k n).length = k := by
 induction k with
 | zero=>rfl
 | succ k ih=>simp [C2w,ih]
def A0c (n width : Int) : ByteArray × Int :=
 if 2<=width/\width<=12 then
  if 0<=n/\n<=8 ^ (width-1).toNat-1 then (ofL (C2w (width-1).toNat n.toNat++[0]),0) else (ByteArray.empty,4)
 else (ByteArray.empty,4)
theorem set_rep (m : Nat) (c : UInt8) (t : List UInt8) : (List.replicate (m + 1) (0 : UInt8) ++ t).set m c = List.replicate m 0 ++ (c :: t) := by
 rw [List.replicate_succ'];simp
theorem E8m (m k : Nat) : ((m / 8 ^ k : Nat) : Int) / 8 = ((m / 8 ^ (k + 1) : Nat) : Int) := by
 rw [Nat.pow_succ,<-Nat.div_div_eq_div_mul];simp
theorem F8f (x : Nat) : ((48 : Int) + ((x : Nat) : Int) % 8) = ((UInt8.ofNat (48 + x % 8)).toNat : Int) := by
 have:(UInt8.ofNat (48+x % 8)).toNat=48+x % 8:=by simp;omega
 rw [this];omega
def F9b (W k m : Nat) : List UInt8 := List.replicate (W - 1 - k) 0 ++ (C2w k m ++ [0])
theorem C3t (W k m : Nat) (h : k < W) : (F9b W k m).length = W := by simp [F9b,A1v]; omega
theorem F2o {W k m : Nat} (h : k + 1 < W) : (F9b W k m).set (W - 2 - k) (UInt8.ofNat (48 + m / 8 ^ k % 8)) = F9b W (k + 1) m := by
 have e1:W-1-k=(W-2-k)+1:=by omega
 have e2:W-1-(k+1)=W-2-k:=by omega
 unfold F9b;rw [e1,set_rep,e2];rfl
theorem F8b (W m : Nat) (h : 0 < W) : F9b W 0 m = List.replicate W 0 := by
 obtain ⟨k,rfl⟩:∃ k,W=k+1:=⟨W-1,by omega⟩;simp [F9b,C2w,List.replicate_succ']
theorem F3o (W m : Nat) (h : 0 < W) : F9b W (W - 1) m = C2w (W - 1) m ++ [0] := by simp [F9b]
theorem E6u (x : Nat) (h : x < 8) : (ofL [48,49,50,51,52,53,54,55]).extract x (x + 1) = ofL [UInt8.ofNat (48 + x)] := by
 match x,h with
 | 0,_|1,_|2,_|3,_|4,_|5,_|6,_|7,_=>rfl
open Go.RowKit
def E3d (s : ByteArray) : Nat → Int
 | 0=>0
 | k+1=>E3d s k+(if 148<=k/\k<156 then 32 else byt s k)
theorem F6e (s : ByteArray) (k : Nat) : 0 ≤ E3d s k ∧ E3d s k ≤ 255 * k := by
 induction k with
 | zero=>simp [E3d]
 | succ k ih =>
   have:=E5n s k;simp only [E3d];split<;>omega
def E0y (s : ByteArray) : Nat → Int
 | 0=>256
 | k+1=>E0y s k+(if 148<=k/\k<156 then 0 else byt s k)
theorem psum_bd (s : ByteArray) (k : Nat) : 0 ≤ E0y s k ∧ E0y s k ≤ 256 + 255 * k := by
 induction k with
 | zero=>simp [E0y]
 | succ k ih =>
   have:=E5n s k;simp only [E0y];split<;>omega
theorem F2b (s : ByteArray) (k : Nat) : E0y s k = E3d s k + 256 - 32 * (if k < 148 then 0 else if k < 156 then (k : Int) - 148 else 8) := by
 induction k with
 | zero=>simp [E0y,E3d]
 | succ k ih =>
   simp only [E0y,E3d,ih]
   repeat' split
   all_goals omega
theorem F0o (s : ByteArray) : E0y s 512 = E3d s 512 := by rw [F2b]; simp
def A6d (s : ByteArray) : Int × Int := if s.size = 512 then (E3d s 512,0) else (0,1)
theorem C0j {s : ByteArray} (h : s.size = 512) : 0 ≤ (A6d s).1 ∧ (A6d s).1 ≤ 130560 := by
 unfold A6d;rw [if_pos h];have:=F6e s 512;exact ⟨this.1,by have:=this.2;simpa using this⟩
theorem A2k (s : ByteArray) (width : Int) (whole : Bool) : (A9a s width whole).1.size ≤ 512 := by
 unfold A9a;split
 ·simp
 ·split
  ·simp
  ·split
   ·simp
   ·simp only [ByteArray.size_append,A8n];omega
theorem A1u (s : ByteArray) (width : Int) (k : Nat) (hk : width = k) (whole : Bool) (h : (A9a s width whole).2 = 0) : (A9a s width whole).1.size = k := by
 subst hk;unfold A9a at h ⊢;split
 ·rename_i h1;rw [if_pos h1] at h;cases h
 ·rename_i h1
  rw [if_neg h1] at h;split
  ·rename_i h2;rw [if_pos h2] at h;cases h
  ·rename_i h2
   rw [if_neg h2] at h;split
   ·rename_i h3;rw [if_pos h3] at h;cases h
   ·simp only [ByteArray.size_append,A8n];omega
theorem A1i (n width : Int) : (A0c n width).1.size ≤ 512 := by
 unfold A0c;split
 ·split
  ·rw [A7a];simp [A1v];omega
  ·simp
 ·simp
theorem B8a (n : Int) (width : Int) (k : Nat) (hk : width = k) (h : (A0c n width).2 = 0) : (A0c n width).1.size = k := by
 subst hk;unfold A0c at h ⊢;split
 ·rename_i h1
  rw [if_pos h1] at h;split
  ·rw [A7a];simp [A1v];omega
  ·rename_i h2;rw [if_neg h2] at h;cases h
 ·rename_i h1;rw [if_neg h1] at h;cases h
abbrev Pen := ByteArray × Int
def A1f (p x : Pen) : Pen := if p.2 = 0 then (p.1 ++ x.1,x.2) else p
def A2d (p x : Pen) : Pen := (p.1 ++ x.1,if p.2 = 0 then x.2 else p.2)
theorem D5q {p x : Pen} (h : p.2 = 0) : A1f p x = (p.1 ++ x.1,x.2) := if_pos h
theorem D3b {p x : Pen} (h : ¬ p.2 = 0) : A1f p x = p := if_neg h
def F3b (l : List Pen) : Pen := l.foldl A1f (ByteArray.empty,0)
def D6a (l : List Pen) : Pen := l.foldl A2d (ByteArray.empty,0)
def B5h (p q : Pen) : Prop := p.2 = q.2 ∧ (p.2 = 0 → p.1 = q.1)
theorem B5h.put {p q : Pen} (h : B5h p q) (x : Pen) : B5h (A1f p x) (A2d q x) := by
 obtain ⟨h1,h2⟩:=h;by_cases h0:p.2=0
 ·rw [D5q h0];have h3:=h2 h0;unfold A2d B5h;rw [if_pos (by rw [<-h1];exact h0),h3];exact ⟨rfl,fun _=>rfl⟩
 ·rw [D3b h0];unfold A2d B5h;rw [if_neg (by rw [<-h1];exact h0)];exact ⟨h1,fun h=>absurd h h0⟩
theorem B5h.puts {p q : Pen} (h : B5h p q) (l : List Pen) : B5h (l.foldl A1f p) (l.foldl A2d q) := by
 induction l generalizing p q with
 | nil=>exact h
 | cons x l ih=>exact ih (h.put x)
theorem pen_ref (l : List Pen) : B5h (F3b l) (D6a l) := B5h.puts ⟨rfl,fun _ => rfl⟩ l
theorem E4c (p x : Pen) : (A1f p x).1.size ≤ p.1.size + x.1.size := by
 unfold A1f;split
 ·simp
 ·omega
theorem A5n {p x : Pen} {n : Nat} (h : p.1.size ≤ n) (hx : x.1.size ≤ 512) : (A1f p x).1.size ≤ n + 512 := Nat.le_trans (E4c p x) (by omega)
theorem A4m {p x : Pen} {n : Nat} (h : p.1.size ≤ n) (hx : x.1.size ≤ 512) : (A2d p x).1.size ≤ n + 512 := by
 unfold A2d;simp only [ByteArray.size_append];omega
theorem A5g {p x : Pen} {n k : Nat} (h : p.2 = 0 → p.1.size = n) (hx : x.2 = 0 → x.1.size = k) : (A2d p x).2 = 0 → (A2d p x).1.size = n + k := by
 unfold A2d;intro h0;simp only [ByteArray.size_append];by_cases hp:p.2=0
 ·rw [if_pos hp] at h0;rw [h hp,hx h0]
 ·rw [if_neg hp] at h0;exact absurd h0 hp
def E6m : List UInt8 := [32,32,32,32,32,32,32,32]
def E9h : List UInt8 := [117,115,116,97,114,0,48,48]
def B8h : List UInt8 := [48,48,48,48,48,48,48,0]
def pNum (n : HeadN) : List Pen := [A9a n.nm 100 true,A0c n.mode 8,A0c n.uid 8,A0c n.gid 8,A0c n.size 12,A0c n.time 12]
def E5c (n : HeadN) : List Pen := [(ofL (E6m ++ [n.typ]),0),A9a n.lk 100 true,(ofL E9h,0),A9a n.user 32 false,A9a n.group 32 false]
def pEnd (n : HeadN) : List Pen := [A9a n.px 155 true,(A2j 12,0)]
def E5d (n : HeadN) : Pen := F3b (pNum n ++ E5c n ++ [(ofL (B8h ++ B8h),0)] ++ pEnd n)
def A3r (n : HeadN) : Pen := D6a (pNum n ++ E5c n ++ [(ofL B8h,0),(ofL B8h,0)] ++ pEnd n)
theorem E8q (p : Pen) (a b : ByteArray) : A2d (A2d p (a,0)) (b,0) = A2d p (a ++ b,0) := by
 unfold A2d;simp only [ByteArray.append_assoc];by_cases h:p.2=0
 ·simp [h]
 ·simp [h]
theorem ofL_two (a b : List UInt8) : ofL a ++ ofL b = ofL (a ++ b) := A5k a b
theorem F8e (n : HeadN) : B5h (E5d n) (A3r n) := by
 have h:=pen_ref (pNum n++E5c n++[(ofL (B8h++B8h),0)]++pEnd n);have e:A3r n=D6a (pNum n++E5c n++[(ofL (B8h++B8h),0)]++pEnd n):=by
  unfold A3r D6a;simp only [List.foldl_append,List.foldl_cons,List.foldl_nil];rw [E8q,ofL_two]
 rw [e];exact h
theorem C2v (n : HeadN) : (A3r n).2 = 0 → (A3r n).1.size = 512 := by
 unfold A3r D6a pNum E5c pEnd;simp only [List.foldl_append,List.foldl_cons,List.foldl_nil];have h0:((ByteArray.empty,0):Pen).2=0->((ByteArray.empty,0):Pen).1.size=0:=fun _=>rfl
 have h1:=A5g h0 (A1u n.nm 100 100 rfl true);have h2:=A5g h1 (B8a n.mode 8 8 rfl);have h3:=A5g h2 (B8a n.uid 8 8 rfl);have h4:=A5g h3 (B8a n.gid 8 8 rfl);have h5:=A5g h4 (B8a n.size 12 12 rfl);have h6:=A5g h5 (B8a n.time 12 12 rfl);have h7:=A5g h6 (x:=(ofL (E6m++[n.typ]),0)) (k:=9) (fun _=>by rw [A7a];rfl);have h8:=A5g h7 (A1u n.lk 100 100 rfl true);have h9:=A5g h8 (x:=(ofL E9h,0)) (k:=8) (fun _=>by rw [A7a];rfl);have h10:=A5g h9 (A1u n.user 32 32 rfl false);have h11:=A5g h10 (A1u n.group 32 32 rfl false);have h12:=A5g h11 (x:=(ofL B8h,0)) (k:=8) (fun _=>by rw [A7a];rfl);have h13:=A5g h12 (x:=(ofL B8h,0)) (k:=8) (fun _=>by rw [A7a];rfl);have h14:=A5g h13 (A1u n.px 155 155 rfl true);exact A5g h14 (x:=(A2j 12,0)) (k:=12) (fun _=>by rw [A8n])
def E3z (s : ByteArray) : ByteArray := s.extract 0 148 ++ (A0c (A6d s).1 7).1 ++ ofL [32] ++ s.extract 156 s.size
def A8q : ByteArray := ofL [48,49,50,53,120]
def A5f (n : HeadN) : ByteArray × Int :=
 if A8k A8q n.typ=false then (ByteArray.empty,2)
 else if ¬ (A3r n).2=0 then (ByteArray.empty,(A3r n).2) else (E3z (A3r n).1,0)
theorem F6m {r : Int} (h : Lib.validRune r = true) : Utf8.valid r = true := by
 unfold Lib.validRune at h;unfold Utf8.valid;simp at h ⊢;omega
theorem get_byt! (s : ByteArray) (k : Nat) (h : k < s.size) : (s.get! k).toNat = byt s k := by
 rw [<-A4f s k h];simp [ByteArray.get!,getElem!_pos,h];rfl
theorem D0v (s : ByteArray) (pos : Nat) : ∀ k,1 ≤ k → k < (Utf8.decode s pos).2 → pos + k < s.size ∧ 128 ≤ byt s (pos + k) := by
 have key:∀ k,1<=k->k<(Utf8.decode s pos).2->pos+k<s.size/\128<=(s.get! (pos+k)).toNat:=by
  simp only [Utf8.decode]
  repeat' split
  all_goals
   intro k h1 h2;simp only at h2;have hk:k=1\/k=2\/k=3:=by omega
   rcases hk with rfl|rfl|rfl<;>simp_all<;>omega
 intro k h1 h2;obtain ⟨h3,h4⟩:=key k h1 h2;exact ⟨h3,by rw [<-get_byt! s _ h3];exact h4⟩
def A6x (s : ByteArray) : Bool := A8k s 61 || A8k s 10
theorem E0t {s : ByteArray} {k : Nat} (h : k < s.size) (e : byt s k = 61 ∨ byt s k = 10) : A6x s = true := by
 unfold A6x;rcases e with e|e
 ·rw [B6g h (c:=61) e];rfl
 ·rw [B6g h (c:=10) e,Bool.or_true]
theorem F2e {s : ByteArray} (h : ∀ k,k < s.size → byt s k ≠ 61 ∧ byt s k ≠ 10) : A6x s = false := by
 unfold A6x;rw [B8v (c:=61) (fun k hk=>(h k hk).1),B8v (c:=10) (fun k hk=>(h k hk).2)];rfl
def F1w (w : World) (b : Bool) (e : Ending) (w' : World) : Prop := ∃ m : Int,e = .returned (.int .i64 m) ∧ decide (0 ≤ m) = b ∧ Below w.heap.size w w'
end Go.Creel
namespace Go.Proofs.YtaffgndickdbiaaGreatDoor
open Go.Creel Go.RowKit
theorem B6d (n : Int) (w : World) :
 Calls Tryz.prog 158 #[.int .i64 n] w fun e w'=>e=.returned (.tuple #[.int .i64 (A7o n).1,.int .i64 (A7o n).2])/\w=w':=by
 by_cases h:2<=n/\n<=12
 ·obtain ⟨h1,h2⟩:=h;obtain ⟨m,rfl⟩:∃ m:Nat,n=(m:Int):=⟨n.toNat,by omega⟩;obtain ⟨k,rfl⟩:∃ k:Nat,m=k+1:=⟨m-1,by omega⟩;have HF:=Hi (show A7o ((k+1:Nat):Int)=(((8 ^ k:Nat):Int)-1,0) by
   have:(((k+1:Nat):Int)-1).toNat=k:=by omega
   simp only [A7o,this];rw [if_pos ⟨h1,h2⟩];simp)
  have hb:8 ^ k<=8 ^ 11:=Nat.pow_le_pow_right (by decide) (by omega);have hb2:0<8 ^ k:=Nat.pow_pos (by decide);go_enter Tryz.func158,Tryz.ntmps158;go_wp2_with fail
  refine (D3q k _ (by omega)).mono ?_;rintro e w' ⟨rfl,rfl⟩;generalize 8 ^ k=p at *;have hb3:p<=8589934592:=by simpa using hb
  clear hb;go_wp2;go_ret2;exact ⟨A1p HF.out,rfl⟩
 ·have HF:=Hi (show A7o n=(0,4) by simp only [A7o];rw [if_neg h]);by_cases h1:n<2
  ·have hd:decide (n<2)=true:=by simpa using h1
   go_enter Tryz.func158,Tryz.ntmps158;go_wp2;go_ret2;exact ⟨A1p HF.out,rfl⟩
  ·have h2:12<n:=by omega
   go_enter Tryz.func158,Tryz.ntmps158;go_wp2;go_ret2;exact ⟨A1p HF.out,rfl⟩
theorem B7i (n : Int) (w : World) :
 Calls Tryz.prog 87 #[.int .i64 n] w fun e w'=>e=.returned (.tuple #[.int .i64 (A7o n).1,.int .i64 (A7o n).2])/\w=w':=by
 by_cases h:2<=n/\n<=12
 ·obtain ⟨h1,h2⟩:=h;rcases eleven h1 h2 with rfl|rfl|rfl|rfl|rfl|rfl|rfl|rfl|rfl|rfl|rfl
  all_goals
   clear h1 h2;go_enter Tryz.func87,Tryz.ntmps87;go_wp2;go_ret2;exact ⟨rfl,rfl⟩
 ·have HF:=Hi (show A7o n=(0,4) by simp only [A7o];rw [if_neg h]);by_cases h1:n<2
  ·have hd:decide (n<2)=true:=by simpa using h1
   go_enter Tryz.func87,Tryz.ntmps87;go_wp2;go_ret2;exact ⟨A1p HF.out,rfl⟩
  ·have h2:12<n:=by omega
   go_enter Tryz.func87,Tryz.ntmps87;go_wp2;go_ret2;exact ⟨A1p HF.out,rfl⟩
theorem F4e : (Tryz.prog.info? 5).map (fun i => (i.zero,i.size,i.bytes)) = some (some (.int .u8 0),1,1) := by kernel_rfl
theorem E5s (w : World) (n : Nat) (hn : n ≤ 281474976710656) : (Instr.makeSlice 24 (.int .i64 (n : Int)) (.int .i64 (n : Int))).run Tryz.prog w = .ok (.slice (some ⟨w.heap.size,0,none⟩) n n) (w.alloc (.cells (madeCells #[.int .u8 0] n) 5)) := by
 obtain ⟨i0,hi,hz0,hz1,hz2⟩:=info_parts F4e;exact C8y w _ _ i0 Tryz.underlying24 hi hz0 hz1 hz2 n hn
theorem E7g (m W : Nat) (w : World) (h1 : 2 ≤ W) (h2 : W ≤ 12) (hm : m < 8 ^ (W - 1)) :
 Calls Tryz.prog 97 #[.int .i64 m,.int .i64 W] w fun e w'=>e=.returned (.tuple #[.string (ofL (C2w (W-1) m++[0])),.int .i64 0])/\Below w.heap.size w w':=by
 have hM:=B2k (W:=W) h1 h2;have hmk:=E5s w W (by omega);have hp:8 ^ (W-1)<=8 ^ 11:=Nat.pow_le_pow_right (by decide) (by omega)
 have hml:m<=8589934592:=by have:(8:Nat) ^ 11=8589934592:=by decide
                            omega
 have HO:=Hi (F7b (t:=5) w W (by unfold maxLen;omega));have HB:=Hi ((Below.refl w.heap.size w).alloc lr (.cells (madeCells #[.int .u8 0] W) 5));rw [<-F8b W m (by omega)] at HO;have HR:=Hi (show ((F9b W (W-1) m).length=W) from C3t W (W-1) m (by omega));have hge:¬ ((m:Int)<0):=by omega
 generalize hq:8 ^ (W-1)=q at *
 have hq1:q<=8589934592:=by have:(8:Nat) ^ 11=8589934592:=by decide
                            omega
 clear hp hq;have hle:¬ ((q:Int)-1<(m:Int)):=by omega
 go_enter Tryz.func97,Tryz.ntmps97;go_wp2_with fail
 refine (B7i _ _).mono ?_;rintro e w' ⟨rfl,rfl⟩;rw [hM];clear hM;go_wp2_with fail
 generalize World.alloc w _=w1 at *;clear hmk;go_loopw [0,9] (fun n i wr=>∃ k:Nat,k<=W-1/\i=.int .i64 ((W:Int)-2-k)/\n=.int .i64 ((m / 8 ^ k:Nat):Int)/\D4k 5 wr w.heap.size w.heap.size W (F9b W k m)/\Below w.heap.size w wr) (fun _ i _=>(intOf i+1).toNat)
 case atStart=>exact ⟨0,by omega,by simp,by simp,HO,HB⟩
 case round =>
  obtain ⟨k,hk,rfl,rfl,ho,hb⟩:=hrel;have hlen:=C3t W k m (by omega);have HS:=Hi ho;have HB1:=Hi hb;clear HO HB;by_cases hlt:k<W-1
  ·have hc:=ho.cell (j:=W-2-k) (by omega);have hf:=ho.free (W-2-k);have hx:((W:Int)-2-k).toNat=W-2-k:=by omega
   have h0:(0:Int)<=(W:Int)-2-k:=by omega
   have hd:m / 8 ^ k<=m:=Nat.div_le_self _ _;have HV:=Hi (F8f (m / 8 ^ k));have HD:=Hi (E8m m k);have HO:=Hi (fun (n:Int) (hn:n=((UInt8.ofNat (48+m / 8 ^ k % 8)).toNat:Int))=>(F2o (W:=W) (k:=k) (m:=m) (by omega))▸ho.store (W-2-k) (UInt8.ofNat (48+m / 8 ^ k % 8)) (n:=n) hn);generalize m / 8 ^ k=x at *;clear ho hb hlen;go_wp2;go_roundw
   case rel=>exact ⟨k+1,by omega,by go_num,by rw [<-HD.out],HO.out _ HV.out,HB1.out.setCell lr _⟩
   case measure=>simp [intOf];omega
  ·obtain rfl:k=W-1:=by omega
   have hcv:=ho.string 24 5 9 Tryz.underlying24 Tryz.underlying5 Tryz.underlying9;rw [hlen,F3o W m (by omega)] at hcv;have hneg:¬ (0:Int)<=(W:Int)-2-((W-1:Nat):Int):=by omega
   clear ho hlen;go_wp2;go_ret2;exact ⟨rfl,HB1.out⟩
theorem E6w (m W : Nat) (w : World) (h1 : 2 ≤ W) (h2 : W ≤ 12) (hm : m < 8 ^ (W - 1)) :
 Calls Tryz.prog 109 #[.int .i64 m,.int .i64 W] w fun e w'=>e=.returned (.tuple #[.string (ofL (C2w (W-1) m++[0])),.int .i64 0])/\w=w':=by
 have hM:=B2k (W:=W) h1 h2;have hp:8 ^ (W-1)<=8 ^ 11:=Nat.pow_le_pow_right (by decide) (by omega)
 have hml:m<=8589934592:=by have:(8:Nat) ^ 11=8589934592:=by decide
                            omega
 have hge:¬ ((m:Int)<0):=by omega
 generalize hq:8 ^ (W-1)=q at *
 have hq1:q<=8589934592:=by have:(8:Nat) ^ 11=8589934592:=by decide
                            omega
 clear hp hq;have hle:¬ ((q:Int)-1<(m:Int)):=by omega
 go_enter Tryz.func109,Tryz.ntmps109;go_wp2_with fail
 refine (B6d _ _).mono ?_;rintro e w' ⟨rfl,rfl⟩;rw [hM];clear hM;go_wp2
 go_loop [0,8] (fun n s=>∃ k:Nat,k<=W-1/\s=.string (ofL (C2w k m))/\n=.int .i64 ((m / 8 ^ k:Nat):Int)) (fun _ s=>W-slen s)
 case atStart=>exact ⟨0,by omega,rfl,by simp⟩
 case round =>
  obtain ⟨k,hk,rfl,rfl⟩:=hrel;have hsz:(ofL (C2w k m)).size=k:=by rw [A7a,A1v]
  have HZ:=Hi hsz;have hz1:(ofL (C2w k m)).size<=k:=by omega
  have hz2:k<=(ofL (C2w k m)).size:=by omega
  clear hsz;by_cases hlt:k<W-1
  ·have hd:m / 8 ^ k<=m:=Nat.div_le_self _ _;have HD:=Hi (E8m m k);have HT:=Hi (show ∀ x:Nat,x=m / 8 ^ k->(ofL [48,49,50,51,52,53,54,55]).extract (x % 8) (x % 8+1)++ofL (C2w k m)=ofL (C2w (k+1) m) by
    intro x hx;rw [E6u _ (by omega),A5k,hx];rfl)
   have HW:=Hi (show (ofL (C2w (k+1) m)).size=k+1 by rw [A7a,A1v]);generalize hx:m / 8 ^ k=x at *;have HX:=Hi hx;clear hx;generalize ofL (C2w k m)=s at *;go_wp2
   go_round
   case rel=>exact ⟨k+1,by omega,congrArg Value.string (HT.out x rfl),by rw [<-HD.out]⟩
   case measure =>
    have e:=HT.out x rfl;show W-((ofL [48,49,50,51,52,53,54,55]).extract (x % 8) (x % 8+1)++s).size<W-s.size
    rw [e,HW.out];omega
  ·obtain rfl:k=W-1:=by omega
   go_wp2;go_ret2;refine ⟨?_,rfl⟩;show Ending.returned (.tuple #[.string (ofL (C2w (W-1) m)++ofL [0]),.int .i64 0])=_
   rw [A5k]
theorem A3w (n W : Int) (w : World) :
 Calls Tryz.prog 97 #[.int .i64 n,.int .i64 W] w fun e w'=>e=.returned (.tuple #[.string (A0c n W).1,.int .i64 (A0c n W).2])/\Below w.heap.size w w':=by
 by_cases hW:2<=W/\W<=12
 ·obtain ⟨V,rfl⟩:∃ V:Nat,W=(V:Int):=⟨W.toNat,by omega⟩;have hV:((V:Int)-1).toNat=V-1:=by omega
  by_cases hn:0<=n/\n<=8 ^ (V-1)-1
  ·obtain ⟨m,rfl⟩:∃ m:Nat,n=(m:Int):=⟨n.toNat,by omega⟩;have hm:m<8 ^ (V-1):=by
    have h8:((8 ^ (V-1):Nat):Int)=8 ^ (V-1):=by simp
    omega
   refine (E7g m V w (by omega) (by omega) hm).mono ?_;rintro e w' ⟨rfl,h⟩;refine ⟨A1c ?_,h⟩;simp only [A0c,hV];rw [if_pos hW,if_pos hn,Int.toNat_natCast]
  ·have HF:=Hi (show A0c n V=(ByteArray.empty,4) by simp only [A0c,hV];rw [if_pos hW,if_neg hn]);have hM:=B2k (W:=V) (by omega) (by omega);have h8:((8 ^ (V-1):Nat):Int)=8 ^ (V-1):=by simp
   rw [<-h8] at hn;have hp1:8 ^ (V-1)<=8 ^ 11:=Nat.pow_le_pow_right (by decide) (by omega);clear h8;generalize 8 ^ (V-1)=q at *;by_cases h0:n<0
   ·have hd:decide (n<0)=true:=by simpa using h0
    go_enter Tryz.func97,Tryz.ntmps97;go_wp2_with fail
    refine (B7i _ _).mono ?_;rintro e w' ⟨rfl,rfl⟩;rw [hM];clear hM;go_wp2;go_ret2;exact ⟨A1c HF.out,Below.refl _ _⟩
   ·have hgt:(q:Int)-1<n:=by omega
    go_enter Tryz.func97,Tryz.ntmps97;go_wp2_with fail
    refine (B7i _ _).mono ?_;rintro e w' ⟨rfl,rfl⟩;rw [hM];clear hM hn;go_wp2;go_ret2;exact ⟨A1c HF.out,Below.refl _ _⟩
 ·have HF:=Hi (show A0c n W=(ByteArray.empty,4) by simp only [A0c];rw [if_neg hW]);have hM:A7o W=(0,4):=by simp only [A7o];rw [if_neg hW]
  go_enter Tryz.func97,Tryz.ntmps97;go_wp2_with fail
  refine (B7i _ _).mono ?_;rintro e w' ⟨rfl,rfl⟩;rw [hM];clear hM hW;go_wp2;go_ret2;exact ⟨A1c HF.out,Below.refl _ _⟩
theorem C4b (n W : Int) (w : World) :
 Calls Tryz.prog 109 #[.int .i64 n,.int .i64 W] w fun e w'=>e=.returned (.tuple #[.string (A0c n W).1,.int .i64 (A0c n W).2])/\w=w':=by
 by_cases hW:2<=W/\W<=12
 ·obtain ⟨V,rfl⟩:∃ V:Nat,W=(V:Int):=⟨W.toNat,by omega⟩;have hV:((V:Int)-1).toNat=V-1:=by omega
  by_cases hn:0<=n/\n<=8 ^ (V-1)-1
  ·obtain ⟨m,rfl⟩:∃ m:Nat,n=(m:Int):=⟨n.toNat,by omega⟩;have hm:m<8 ^ (V-1):=by
    have h8:((8 ^ (V-1):Nat):Int)=8 ^ (V-1):=by simp
    omega
   refine (E6w m V w (by omega) (by omega) hm).mono ?_;rintro e w' ⟨rfl,h⟩;refine ⟨A1c ?_,h⟩;simp only [A0c,hV];rw [if_pos hW,if_pos hn,Int.toNat_natCast]
  ·have HF:=Hi (show A0c n V=(ByteArray.empty,4) by simp only [A0c,hV];rw [if_pos hW,if_neg hn]);have hM:=B2k (W:=V) (by omega) (by omega);have h8:((8 ^ (V-1):Nat):Int)=8 ^ (V-1):=by simp
   rw [<-h8] at hn;have hp1:8 ^ (V-1)<=8 ^ 11:=Nat.pow_le_pow_right (by decide) (by omega);clear h8;generalize 8 ^ (V-1)=q at *;by_cases h0:n<0
   ·have hd:decide (n<0)=true:=by simpa using h0
    go_enter Tryz.func109,Tryz.ntmps109;go_wp2_with fail
    refine (B6d _ _).mono ?_;rintro e w' ⟨rfl,rfl⟩;rw [hM];clear hM;go_wp2;go_ret2;exact ⟨A1c HF.out,rfl⟩
   ·have hgt:(q:Int)-1<n:=by omega
    go_enter Tryz.func109,Tryz.ntmps109;go_wp2_with fail
    refine (B6d _ _).mono ?_;rintro e w' ⟨rfl,rfl⟩;rw [hM];clear hM hn;go_wp2;go_ret2;exact ⟨A1c HF.out,rfl⟩
 ·have HF:=Hi (show A0c n W=(ByteArray.empty,4) by simp only [A0c];rw [if_neg hW]);have hM:A7o W=(0,4):=by simp only [A7o];rw [if_neg hW]
  go_enter Tryz.func109,Tryz.ntmps109;go_wp2_with fail
  refine (B6d _ _).mono ?_;rintro e w' ⟨rfl,rfl⟩;rw [hM];clear hM hW;go_wp2;go_ret2;exact ⟨A1c HF.out,rfl⟩
theorem C1y (s : ByteArray) (w : World) (hs : s.size ≤ maxLen) :
 Calls Tryz.prog 110 #[.string s] w fun e w'=>e=.returned (.tuple #[.int .i64 (A6d s).1,.int .i64 (A6d s).2])/\w=w':=by
 unfold maxLen at hs;by_cases h:s.size=512
 ·have HF:=Hi (show A6d s=(E3d s 512,0) by simp [A6d,h]);have h1:((s.size:Int) != 512)=false:=by simp [h]
  have H:=Hi h;clear h;go_enter Tryz.func110,Tryz.ntmps110;go_wp2
  go_loop [4,5] (fun n i=>∃ k:Nat,k<=512/\i=.int .i64 k/\n=.int .i64 (E3d s k)) (fun _ i=>512-(intOf i).toNat)
  case atStart=>exact ⟨0,by omega,rfl,rfl⟩
  case round =>
   obtain ⟨k,hk,rfl,rfl⟩:=hrel;have hd:=F6e s k;by_cases hlt:k<512
   ·have hks:k<s.size:=by rw [H.out];exact hlt
    have hb:=E5n s k;have HB:=Hi (A4f s k hks);have HS:=Hi (show E3d s (k+1)=E3d s k+(if 148<=k/\k<156 then 32 else byt s k) from rfl);have hb':s[k].toNat<256:=UInt8.toNat_lt _;go_wp2
    all_goals go_round
    all_goals first
     | (case rel=>exact ⟨k+1,by omega,by go_num,by rw [HS.out];first|(rw [if_pos (by omega)];rfl)|rw [if_neg (by omega),<-HB.out]⟩)
     | (case measure=>simp [intOf];omega)
   ·have hk:k=512:=by omega
    subst hk;go_wp2;go_ret2;exact ⟨A1p HF.out,rfl⟩
 ·have HF:=Hi (show A6d s=(0,1) by simp [A6d,h]);have h1:((s.size:Int) != 512)=true:=by simp;omega
  go_enter Tryz.func110,Tryz.ntmps110;go_wp2;go_ret2;exact ⟨A1p HF.out,rfl⟩
theorem F7h (s : ByteArray) (w : World) (hs : s.size ≤ maxLen) :
 Calls Tryz.prog 99 #[.string s] w fun e w'=>e=.returned (.tuple #[.int .i64 (A6d s).1,.int .i64 (A6d s).2])/\w=w':=by
 unfold maxLen at hs;by_cases h:s.size=512
 ·have HF:=Hi (show A6d s=(E3d s 512,0) by simp [A6d,h]);have h1:((s.size:Int) != 512)=false:=by simp [h]
  have h2:s.size<513:=by omega
  have h3:512<=s.size:=by omega
  clear h;go_enter Tryz.func99,Tryz.ntmps99;go_wp2
  go_loop [4,5,11] (fun n _ i=>∃ k:Nat,k<=512/\i=.int .i64 k/\n=.int .i64 (E0y s k)) (fun _ _ i=>512-(intOf i).toNat)
  case atStart=>exact ⟨0,by omega,rfl,rfl⟩
  case round =>
   obtain ⟨k,hk,rfl,rfl⟩:=hrel;have hd:=psum_bd s k;by_cases hlt:k<512
   ·have hks:k<s.size:=by omega
    have hb:=E5n s k;have HB:=Hi (A4f s k hks);have HS:=Hi (show E0y s (k+1)=E0y s k+(if 148<=k/\k<156 then 0 else byt s k) from rfl);have hb':s[k].toNat<256:=UInt8.toNat_lt _;go_wp2
    all_goals go_round
    all_goals first
     | (case rel=>exact ⟨k+1,by omega,by go_num,by rw [HS.out];first|(rw [if_pos (by omega)];simp)|rw [if_neg (by omega),<-HB.out]⟩)
     | (case measure=>simp [intOf];omega)
   ·have hk:k=512:=by omega
    subst hk;go_wp2;go_ret2;exact ⟨A1p (by rw [HF.out,F0o]),rfl⟩
 ·have HF:=Hi (show A6d s=(0,1) by simp [A6d,h]);have h1:((s.size:Int) != 512)=true:=by simp;omega
  go_enter Tryz.func99,Tryz.ntmps99;go_wp2;go_ret2;exact ⟨A1p HF.out,rfl⟩
theorem F7r (r : Int) (w : World) (h0 : 128 ≤ r) (h1 : r ≤ 2147483647) (he : r ≠ 65533) (hv : Lib.validRune r = false) :
 Calls Tryz.prog 233 #[.string ⟨#[61,10]⟩,.int .i32 r] w fun e w'=>e=.returned (.int .i64 (-1))/\w=w':=by
 have q0:¬ r<128:=by omega
 have q1:(r==65533)=false:=by rw [beq_eq_false_iff_ne];exact he
 have HV:=Hi hv;clear hv he;go_enter Tryz.func233,Tryz.ntmps233;go_wp2_with (go_at_call 246;refine (Tryz.utf8_ValidRune _ _).mono ?_;rintro e w' ⟨rfl,hw⟩;rw [hw,HV.out])
 go_ret;exact ⟨rfl,rfl⟩
theorem F1i (r : Int) (w : World) (h0 : 128 ≤ r) (h1 : r ≤ 2147483647) (he : r ≠ 65533) (hv : Lib.validRune r = true) (e : ByteArray) (hE : Utf8.encode r = e) (h2 : 3 ≤ e.size) (h4 : e.size ≤ 4) :
 Calls Tryz.prog 233 #[.string ⟨#[61,10]⟩,.int .i32 r] w fun e w'=>e=.returned (.int .i64 (-1))/\w=w':=by
 have q0:¬ r<128:=by omega
 have q1:(r==65533)=false:=by rw [beq_eq_false_iff_ne];exact he
 have HV:=Hi hv;have q2:¬ ((e.size:Int)-1<2):=by omega
 clear hv he;go_enter Tryz.func233,Tryz.ntmps233;go_wp2_with (go_at_call 246;refine (Tryz.utf8_ValidRune _ _).mono ?_;rintro e w' ⟨rfl,hw⟩;rw [hw,HV.out])
 go_step3
 go_wp2
 go_loop [9,10,11,12] (fun v9 v10 _ _=>v9=.int .i64 (e.size-1)/\v10=.int .i64 0) (fun _ _ _ _=>0)
 case atStart=>exact ⟨rfl,rfl⟩
 case round =>
  obtain ⟨rfl,rfl⟩:=hrel;go_wp2
  first|rw [Exit.noGoto_ret]|skip
  go_ret;exact ⟨rfl,rfl⟩
theorem F5r (r : Int) (w : World) (h0 : 128 ≤ r) (h1 : r ≤ 2147483647) (he : r ≠ 65533) (hv : Lib.validRune r = true) (a b : UInt8) (hE : Utf8.encode r = ⟨#[a,b]⟩) (hb : 128 ≤ b.toNat) :
 Calls Tryz.prog 233 #[.string ⟨#[61,10]⟩,.int .i32 r] w fun e w'=>e=.returned (.int .i64 (-1))/\Below w.heap.size w w':=by
 have q0:¬ r<128:=by omega
 have q1:(r==65533)=false:=by rw [beq_eq_false_iff_ne];exact he
 have HV:=Hi hv;have q2:((10:Int)==(b.toNat:Int))=false:=by rw [beq_eq_false_iff_ne];omega
 have q3:((10:Int) != (b.toNat:Int))=true:=by rw [bne,q2];rfl
 have q4:((((ByteArray.mk #[61,10])[1]'(by decide)).toNat:Int) != (((ByteArray.mk #[a,b])[1]'(show 1<2 by omega)).toNat:Int))=true:=q3;have hsz:(ByteArray.mk #[a,b]).size=2:=rfl;clear hv he;go_enter Tryz.func233,Tryz.ntmps233;go_wp2_with (go_at_call 246;refine (Tryz.utf8_ValidRune _ _).mono ?_;rintro e w' ⟨rfl,hw⟩;rw [hw,HV.out])
 go_step3
 go_wp2
 go_loop [9,10,11,12] (fun v9 v10 _ _=>v9=.int .i64 1/\v10=.int .i64 0) (fun _ _ _ _=>0)
 case atStart=>exact ⟨rfl,rfl⟩
 case round =>
  obtain ⟨rfl,rfl⟩:=hrel;go_wp2
  go_step3
  go_wp2;go_quiet (fail)
  go_wp2;have hw2:IntKind.i64.wrap ((1:Int)+1)=2:=rfl;have hw3:IntKind.i64.wrap (2:Int)=2:=rfl;have hsl:∀ w,(Instr.slice 9 (.string ⟨#[61,10]⟩) (some (.int .i64 2)) none none).run Tryz.prog w=.ok (.string ⟨#[]⟩) w:=fun w=>by kernel_rfl
  have hsl2:∀ w,(Instr.sliceAt 9 (.string ⟨#[61,10]⟩) (some (.int .i64 2)) none none).run Tryz.prog w=.ok (.string ⟨#[]⟩) w:=fun w=>by kernel_rfl
  go_still_tail 7,(by kernel_rfl)
  go_wp2_with fail
  refine (A6b _ _ _).mono ?_;rintro e w' ⟨rfl,rfl⟩;rw [show firstIdx (ByteArray.mk #[]) ((((ByteArray.mk #[a,b])[1]'(show 1<2 by omega)).toNat:Int).toNat.toUInt8) = -1 from rfl];go_wp2;rw [Exit.noGoto_ret];go_wp2
  first|rw [Exit.noGoto_ret]|skip
  go_ret;exact ⟨rfl,rfl,rfl,rfl,Nat.le_refl _,fun _ _=>rfl⟩
theorem F6r (w : World) :
 Calls Tryz.prog 233 #[.string ⟨#[61,10]⟩,.int .i32 65533] w fun e w'=>e=.returned (.int .i64 (-1))/\Below w.heap.size w w':=by
 go_enter Tryz.func233,Tryz.ntmps233;go_wp2;obtain ⟨s,hs⟩:∃ s:ByteArray,s=⟨#[61,10]⟩:=⟨_,rfl⟩;rw [<-hs];have hsz:s.size=2:=by rw [hs];rfl
 have HX:=Hi (show ∀ k (h:k<s.size),(s[k]'h).toNat<128 from by
  subst hs;intro k h;have:k=0\/k=1:=by have:(ByteArray.mk #[61,10]).size=2:=rfl;omega
  rcases this with rfl|rfl
  ·show (61:UInt8).toNat<128;decide
  ·show (10:UInt8).toNat<128;decide)
 clear hs
 go_loopg [5,6] 2 (fun g _ _ wx=>∃ i:Nat,i+g=2/\wx=w.iter s i)
 case atStart=>exact ⟨0,by omega,rfl⟩
 case round =>
  obtain ⟨i,hig,rfl⟩:=hrel;cases gk with
  | zero =>
    obtain rfl:i=2:=by omega
    have hnx:=run_next_end (P:=Tryz.prog) w s 2;go_wp2;go_ret;exact ⟨rfl,(Below.refl _ _).alloc lr _⟩
  | succ g =>
    have hi:i<s.size:=by omega
    have hx:=HX.out i hi;have hnx:=fun ty=>run_next_ascii (P:=Tryz.prog) w s i ty hi hx
    have hne:(((s[i]'hi).toNat:Int)==65533)=false:=by rw [beq_eq_false_iff_ne];omega
    go_wp2
    go_roundg g
    case measure=>omega
    case rel=>exact ⟨i+1,by omega,rfl⟩
theorem F8r (r : Int) (w : World) (h0 : 0 ≤ r) (h1 : r < 128) :
 Calls Tryz.prog 233 #[.string ⟨#[61,10]⟩,.int .i32 r] w fun e w'=>e=.returned (.int .i64 (firstIdx ⟨#[61,10]⟩ r.toNat.toUInt8))/\Below w.heap.size w w':=by
 have HI:=Hi (fun w=>A6b ⟨#[61,10]⟩ r w);go_enter Tryz.func233,Tryz.ntmps233;go_wp2_with fail
 refine (HI.out _).mono ?_;rintro e w' ⟨rfl,rfl⟩;go_wp2;go_ret;exact ⟨rfl,Below.refl _ _⟩
theorem F2i (r : Int) (w : World) (h0 : 128 ≤ r) (h1 : r ≤ 2147483647) :
 Calls Tryz.prog 233 #[.string ⟨#[61,10]⟩,.int .i32 r] w fun e w'=>e=.returned (.int .i64 (-1))/\Below w.heap.size w w':=by
 by_cases he:r=65533
 ·subst he;exact F6r w
 ·cases hv:Lib.validRune r with
  | false=>exact (F7r r w h0 h1 he hv).mono fun e w' ⟨a,b⟩=>⟨a,by rw [<-b];exact Below.refl _ _⟩
  | true =>
    obtain ⟨e1,e2,e3⟩:=encode_facts r (F6m hv) h0;by_cases h3:3<=(Utf8.encode r).size
    ·exact (F1i r w h0 h1 he hv _ rfl h3 e2).mono fun e w' ⟨a,b⟩=>⟨a,by rw [<-b];exact Below.refl _ _⟩
    ·have h2:(Utf8.encode r).data.toList.length=2:=by rw [<-Lib.size_eq];omega
     obtain ⟨a,b,hab⟩:∃ a b,(Utf8.encode r).data.toList=[a,b]:=by
      match hl:(Utf8.encode r).data.toList,h2 with
      | [a,b],_=>exact ⟨a,b,rfl⟩
     have hE:Utf8.encode r=⟨#[a,b]⟩:=A0h (by rw [hab]);refine F5r r w h0 h1 he hv a b hE ?_;have:=e3 (by omega);simp only [hE] at this;exact this
end Go.Proofs.YtaffgndickdbiaaGreatDoor
