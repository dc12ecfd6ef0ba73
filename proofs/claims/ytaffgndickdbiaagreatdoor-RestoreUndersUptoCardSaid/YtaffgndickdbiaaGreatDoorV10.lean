/- A part of the proof. -/
import Derived.Test.YtaffgndickdbiaaGreatDoorV09
import Derived.Lib.ItoaLen
set_option linter.unusedVariables false
set_option linter.unusedSimpArgs false
set_option maxRecDepth 100000
set_option maxHeartbeats 1000000
namespace Go.Creel
open Go.RowKit
def A8f (n : Int) : Int × Int := if 0 ≤ n ∧ n ≤ 8589934591 then ((n + 511) / 512,0) else (0,4)
def A6u (n : Nat) : Nat := (512 - n % 512) % 512
def A3f (l : List UInt8) : List UInt8 := l ++ List.replicate (A6u l.length) 0
def RetBs (t : TypeId) (w : World) (l : List UInt8) (e : Ending) (w' : World) : Prop := ∃ v,e = .returned v ∧ OwnBs t w' w.heap.size v l ∧ Below w.heap.size w w'
def vlen : Value → Nat | .slice _ n _ => n | _ => 0
theorem D0r {n m : Nat} (h : (n + m) % 512 = 0) (hm : m ≤ A6u n) : m = A6u n := by unfold A6u at *; omega
theorem E6r {n m : Nat} (h : (n + m) % 512 ≠ 0) (hm : m ≤ A6u n) : m < A6u n := by unfold A6u at *; omega
theorem B0o (n : Nat) : A6u n < 512 := by unfold A6u; omega
theorem F5n (l : List UInt8) (m : Nat) : l ++ List.replicate m 0 ++ [0] = l ++ List.replicate (m + 1) 0 := by rw [List.append_assoc,List.replicate_succ']
def A7r (n : Nat) : HeadN := ⟨⟨#[64,112,97,120]⟩,⟨#[]⟩,⟨#[]⟩,0,0,0,n,0,120,⟨#[]⟩,⟨#[]⟩⟩
def B1t (l : List Rec) : List UInt8 := if l.length = 0 then [] else (A5f (A7r (A4i l).1.size)).1.data.toList ++ A3f (A4i l).1.data.toList
def E2k (h : HeadN) (d : List UInt8) : List UInt8 := (A5f h).1.data.toList ++ A3f d
noncomputable def F8o (x : Ent) : List UInt8 := B1t (A8o x) ++ E2k (A7u x) x.data
noncomputable def A6k (x : Ent) : List UInt8 × Int := if A1b x = 0 then (F8o x,0) else ([],A1b x)
theorem C3a {x : Ent} (h : A1b x = 0) : A6k x = (F8o x,0) := if_pos h
theorem B2t {x : Ent} (h : ¬ A1b x = 0) : A6k x = ([],A1b x) := if_neg h
theorem D8s {l : List Rec} (h : l.length = 0) : B1t l = [] := if_pos h
theorem D1c {l : List Rec} (h : ¬ l.length = 0) : B1t l = (A5f (A7r (A4i l).1.size)).1.data.toList ++ A3f (A4i l).1.data.toList := if_neg h
theorem A3z (n : HeadN) : (A5f n).1.size ≤ 2000 := by
 unfold A5f;split
 ·simp
 ·split
  ·simp
  ·rename_i h
   have h0:(A3r n).2=0:=by simpa using h
   have h1:=C2v n h0;have h2:=A1i (A6d (A3r n).1).1 7;simp only [E3z,ByteArray.size_append,ByteArray.size_extract,A7a,List.length_cons,List.length_nil];omega
theorem B6z (l : List Rec) : (A4i l).1.size ≤ 6792 := by
 by_cases h:A3e l=0
 ·rw [B5z h];have:=(B8n h l.length).1;rw [List.take_length] at this;simp only [A7a];exact this
 ·rw [B4s h];simp
theorem A0z (l : List UInt8) : (A3f l).length ≤ l.length + 512 := by
 unfold A3f;have:=B0o l.length;simp;omega
theorem A1r (s : ByteArray) : s.data.toList.length = s.size := by simp
theorem D9s (l : List Rec) : (B1t l).length ≤ 20000 := by
 unfold B1t;split
 ·simp
 ·have h1:=A3z (A7r (A4i l).1.size);have h2:=B6z l;have h3:=A0z (A4i l).1.data.toList;rw [A1r] at h3;rw [List.length_append,A1r];omega
theorem F3d (h : HeadN) (d : List UInt8) : (E2k h d).length ≤ 2600 + d.length := by
 unfold E2k;have h1:=A3z h;have h3:=A0z d;rw [List.length_append,A1r];omega
theorem F0g (s : ByteArray) : (A4d s).1.size ≤ s.size ∧ (A4d s).2.1.size ≤ s.size := by
 unfold A4d;split
 ·simp
 ·unfold B2j;split
  ·simp
  ·split
   ·simp only [ByteArray.size_extract];omega
   ·simp
theorem D9z (m : Meta) : (A3c m.second m.nano).1.size ≤ 100 := by
 unfold A3c;split
 ·simp
 ·rename_i h
  have hf:A3d m.second m.nano=0:=by simpa using h
  obtain ⟨h1,h2,h3,h4⟩:=A6r hf;have hs:(A9z m.second).size<=1:=by unfold A9z;split<;>simp [A7a]
  have ht:=Lib.itoa_length_le (A9n m.second m.nano) (by unfold A9n;split<;>(try split)<;>omega) (by unfold A9n;split<;>(try split)<;>omega);have hh:(B6c m.second m.nano).size<=30:=by
   unfold B6c;rw [ByteArray.size_append,A7a];omega
  split
  ·simp only;omega
  ·have hd:(Lib.trimRightB (A1j (A3m m.second m.nano).toNat 9) 48).length<=9:=by
    unfold Lib.trimRightB;rw [List.length_reverse];refine Nat.le_trans (List.IsSuffix.length_le (List.dropWhile_suffix _)) ?_;rw [List.length_reverse,A2g];exact Nat.le_refl _
   simp only [ByteArray.size_append,A7a,List.length_cons,List.length_nil];omega
theorem C6d {x : Ent} (hR : EntRight x) : ∀ r ∈ A8o x,r.key.size ≤ maxLen ∧ r.value.size ≤ maxLen := by
 have hi:∀ n:Int,0<=n/\n<=1125899906842624->(D0i n).size<=21:=fun n hn=>by
  unfold D0i;rw [A7a];exact Lib.itoa_length_le n (by omega) (by omega)
 have h1:=hi _ hR.mt.gid;have h2:=hi _ hR.mt.uid;have h3:=hR.mt.user;have h4:=hR.mt.group;have h5:=hR.target;have h6:=hR.pathSize;have h7:=D9z x.mt;have hk:B8k.size<=10/\A3h.size<=10/\B0d.size<=10/\A0m.size<=10/\B1c.size<=10/\B7k.size<=10/\A2h.size<=10:=by decide
 intro r hr;unfold A8o B6a A5j B0j B8b at hr;simp only [List.mem_append] at hr;unfold maxLen;rcases hr with (((((hr|hr)|hr)|hr)|hr)|hr)|hr<;>split at hr<;>simp only [List.mem_singleton,List.not_mem_nil] at hr<;>(try (subst hr;simp only;omega))
theorem C7d {x : Ent} (hR : EntRight x) : (A7u x).Ok maxLen := by
 have h1:=hR.mt.uid;have h2:=hR.mt.gid;have h3:=hR.mt.user;have h4:=hR.mt.group;have h5:=hR.target;have h6:=hR.pathSize;have h7:=hR.mt.mode;have h8:=hR.data;have h9:=hR.mt.second;obtain ⟨c1,c2⟩:=F0g x.path;have hl:E4a.size=5:=by rfl
 have e0:ByteArray.empty.size=0:=rfl;unfold A7u C1v A1q B1i C0v;unfold maxLen;constructor<;>simp only<;>(try split)<;>first|omega|(unfold i64;omega)
def B3t (c : UInt8) (l : List UInt8) : List UInt8 := l.dropWhile (· == c)
def A9w (c : UInt8) (l : List UInt8) : List UInt8 := (l.reverse.dropWhile (· == c)).reverse
theorem C8e {t : ByteArray} (h : 0 < t.size) : ∃ x l,t.data.toList = x :: l ∧ byt t 0 = x.toNat := by
 cases hl:t.data.toList with
 | nil =>
   have:t.size=0:=by rw [Lib.size_eq t,hl];rfl
   omega
 | cons x l=>exact ⟨x,l,rfl,by simp [byt,hl]⟩
theorem C9e {t : ByteArray} (h : 0 < t.size) : ∃ l x,t.data.toList = l ++ [x] ∧ byt t (t.size - 1) = x.toNat := by
 have hs:t.size=t.data.toList.length:=Lib.size_eq t;rcases List.eq_nil_or_concat t.data.toList with e|⟨l,x,e⟩
 ·have h0:t.size=0:=by rw [hs,e];rfl
  omega
 ·rw [List.concat_eq_append] at e;refine ⟨l,x,e,?_⟩;have hl:t.size=l.length+1:=by rw [hs,e];simp
  unfold byt;rw [e,hl];simp
theorem E7s {c : UInt8} {t : ByteArray} (h : 0 < t.size) (hc : byt t 0 = c.toNat) : B3t c (t.extract 1 t.size).data.toList = B3t c t.data.toList := by
 obtain ⟨x,l,hl,hx⟩:=C8e h;have e:x=c:=UInt8.toNat_inj.1 (by omega);have h2:(t.extract 1 t.size).data.toList=l:=by
  have hs:t.size=l.length+1:=by rw [Lib.size_eq t,hl];simp
  rw [Lib.extract_data,hl,hs];simp
 rw [h2,hl,e];simp [B3t]
theorem C7i {c : UInt8} {t : ByteArray} (h : t.size = 0 ∨ byt t 0 ≠ c.toNat) : B3t c t.data.toList = t.data.toList := by
 by_cases h0:t.size=0
 ·have:t.data.toList=[]:=List.eq_nil_of_length_eq_zero ((Lib.size_eq t).symm.trans h0);rw [this];rfl
 ·obtain ⟨x,l,hl,hx⟩:=C8e (Nat.pos_of_ne_zero h0);have hne:x≠c:=fun e=>by rcases h with h|h;exact h0 h;exact h (by rw [hx,e])
  rw [hl];simp [B3t,hne]
theorem D4u (t : ByteArray) {l : List UInt8} {x : UInt8} (hl : t.data.toList = l ++ [x]) : (t.extract 0 (t.size - 1)).data.toList = l := by
 have hs:t.size=l.length+1:=by rw [Lib.size_eq t,hl];simp
 rw [Lib.extract_data,hl,hs];simp
theorem E4q {c : UInt8} {t : ByteArray} (h : 0 < t.size) (hc : byt t (t.size - 1) = c.toNat) : A9w c (t.extract 0 (t.size - 1)).data.toList = A9w c t.data.toList := by
 obtain ⟨l,x,hl,hx⟩:=C9e h;have e:x=c:=UInt8.toNat_inj.1 (by omega);rw [D4u t hl,hl,e];simp [A9w]
theorem C4h {c : UInt8} {t : ByteArray} (h : t.size = 0 ∨ byt t (t.size - 1) ≠ c.toNat) : A9w c t.data.toList = t.data.toList := by
 by_cases h0:t.size=0
 ·have:t.data.toList=[]:=List.eq_nil_of_length_eq_zero ((Lib.size_eq t).symm.trans h0);rw [this];rfl
 ·obtain ⟨l,x,hl,hx⟩:=C9e (Nat.pos_of_ne_zero h0);have hne:x≠c:=fun e=>by rcases h with h|h;exact h0 h;exact h (by rw [hx,e])
  rw [hl];simp [A9w,hne]
theorem B3d {c : UInt8} : ∀ {l : List UInt8},l.dropWhile (· == c) = [] ↔ ∀ x ∈ l,x = c
 | []=>by simp
 | a::l=>by
   by_cases h:a=c
   ·subst h;simp only [List.dropWhile_cons,beq_self_eq_true,if_true];rw [B3d];simp
   ·simp [h]
theorem B8u {c : UInt8} {l : List UInt8} : B3t c (A9w c l) = [] ↔ ∀ x ∈ l,x = c := by
 constructor
 ·intro h;have h1:=B3d.1 h;have h2:l.reverse.dropWhile (· == c)=[]:=by
   cases hd:l.reverse.dropWhile (· == c) with
   | nil=>rfl
   | cons a r =>
     exfalso;have ha:a∈A9w c l:=by simp [A9w,hd]
     have hac:=h1 a ha;have hh:=List.head?_dropWhile_not (p:=(· == c)) (l:=l.reverse);rw [hd] at hh;simp at hh;exact hh hac
  intro x hx;exact B3d.1 h2 x (by simpa using hx)
 ·intro h;have h2:A9w c l=[]:=by
   unfold A9w;rw [B3d.2 (fun x hx=>h x (by simpa using hx))];rfl
  rw [h2];rfl
theorem D1p (c : UInt8) (l : List UInt8) : (A9w c l).length ≤ l.length := by
 unfold A9w;have:=(List.dropWhile_sublist (p:=(· == c)) (l:=l.reverse)).length_le;simpa using this
def C0q (s : ByteArray) : Nat := if A8k s 0 = true then (firstIdx s 0).toNat else s.size
def F3h (s : ByteArray) : Prop := ∀ x ∈ s.data.toList,x = 0
open Classical in
noncomputable def A8e (s : ByteArray) (whole : Bool) : ByteArray × Int :=
 if s.size<1\/512<s.size then (ByteArray.empty,4)
 else if (C0q s=s.size/\whole=false)\/¬ F3h (s.extract (C0q s) s.size) then (ByteArray.empty,3)
 else (s.extract 0 (C0q s),0)
theorem E4e (s : ByteArray) : s.extract 0 s.size = s := by
 apply A0h;rw [Lib.extract_data,Lib.size_eq s,List.drop_zero,Nat.sub_zero];exact List.take_length
theorem C9n (s : ByteArray) : (s.extract s.size s.size).data.toList = [] := by
 rw [Lib.extract_data];simp
theorem E8h {s : ByteArray} {k : Nat} (h1 : k < s.size) (h2 : byt s k = 0) (h3 : ∀ j,j < k → byt s j ≠ 0) : C0q s = k ∧ firstIdx s 0 = k := by
 have hh:A8k s 0=true:=B6g h1 h2;have hg:=D5c hh;rcases E8k (s:=s) (c:=0) with h|⟨i,hi,h4,h5,h6⟩
 ·omega
 ·have:i=k:=by
   rcases Nat.lt_trichotomy i k with h|h|h
   ·exact absurd h5 (h3 i h)
   ·exact h
   ·exact absurd h2 (h6 k h)
  subst this;exact ⟨by unfold C0q;rw [if_pos hh,hi];simp,hi⟩
theorem E4y {s : ByteArray} (h : ∀ j,j < s.size → byt s j ≠ 0) : C0q s = s.size ∧ firstIdx s 0 = -1 := by
 have hh:A8k s 0=false:=B8v h;exact ⟨by unfold C0q;rw [if_neg (by rw [hh];simp)],C5p hh⟩
theorem E3p (s : ByteArray) : (C0q s = s.size ∧ firstIdx s 0 = -1) ∨ (C0q s < s.size ∧ firstIdx s 0 = C0q s) := by
 cases hh:A8k s 0 with
 | false=>exact .inl (E4y (fun j hj=>hasB_no hh j hj))
 | true =>
   have hg:=D5c hh;rcases E8k (s:=s) (c:=0) with h|⟨i,hi,h4,h5,h6⟩
   ·omega
   ·obtain ⟨e1,e2⟩:=E8h h4 h5 h6;exact .inr ⟨by omega,by rw [e2,e1]⟩
theorem allz_eq {t : ByteArray} {n : Nat} (hn : t.size = n) : t = A2j n ↔ F3h t := by
 constructor
 ·intro h x hx;rw [h] at hx;unfold A2j at hx;rw [A0d] at hx;exact List.eq_of_mem_replicate hx
 ·intro h;apply A0h;unfold A2j;rw [A0d,List.eq_replicate_iff];exact ⟨(Lib.size_eq t).symm.trans hn,h⟩
theorem C3e {s : ByteArray} {b : Bool} (h : s.size < 1 ∨ 512 < s.size) : A8e s b = (ByteArray.empty,4) := by unfold A8e; rw [if_pos h]
theorem B2i {s : ByteArray} {b : Bool} (h : ¬ (s.size < 1 ∨ 512 < s.size)) (h2 : (C0q s = s.size ∧ b = false) ∨ ¬ F3h (s.extract (C0q s) s.size)) : A8e s b = (ByteArray.empty,3) := by unfold A8e; rw [if_neg h,if_pos h2]
theorem B1p {s : ByteArray} {b : Bool} (h : ¬ (s.size < 1 ∨ 512 < s.size)) (h2 : ¬ ((C0q s = s.size ∧ b = false) ∨ ¬ F3h (s.extract (C0q s) s.size))) : A8e s b = (s.extract 0 (C0q s),0) := by unfold A8e; rw [if_neg h,if_neg h2]
theorem sne_t {a b : ByteArray} (h : a ≠ b) : (!(a.toList == b.toList)) = true := by rw [A5w h]; rfl
theorem sne_f {a b : ByteArray} (h : a = b) : (!(a.toList == b.toList)) = false := by rw [B3n h]; rfl
end Go.Creel
namespace Go.Proofs.YtaffgndickdbiaaGreatDoor
open Go.Creel Go.RowKit
theorem C0m (n : Int) (w : World) (hn : i64 n) :
 Calls Tryz.prog 171 #[.int .i64 n] w fun e w'=>e=.returned (.tuple #[.int .i64 (A8f n).1,.int .i64 (A8f n).2])/\w=w':=by
 unfold i64 at hn;by_cases h:0<=n/\n<=8589934591
 ·have HF:=Hi (show A8f n=((n+511) / 512,0) by unfold A8f;rw [if_pos h]);obtain ⟨h1,h2⟩:=h;go_enter Tryz.func171,Tryz.ntmps171;go_wp2;go_ret2;exact ⟨A1p (by rw [HF.out];congr 2;omega),rfl⟩
 ·have HF:=Hi (show A8f n=(0,4) by unfold A8f;rw [if_neg h]);have HN:=Hi h;clear h;go_enter Tryz.func171,Tryz.ntmps171;go_wp2
  all_goals first
   | (exfalso;have:=HN.out;omega)
   | (go_ret2;exact ⟨A1p HF.out,rfl⟩)
theorem B6q (n : Int) (w : World) (hn : i64 n) :
 Calls Tryz.prog 182 #[.int .i64 n] w fun e w'=>e=.returned (.tuple #[.int .i64 (A8f n).1,.int .i64 (A8f n).2])/\w=w':=by
 unfold i64 at hn;by_cases h:0<=n/\n<=8589934591
 ·have HF:=Hi (show A8f n=((n+511) / 512,0) by unfold A8f;rw [if_pos h]);obtain ⟨h1,h2⟩:=h;go_enter Tryz.func182,Tryz.ntmps182;go_wp2
  all_goals (go_ret2;exact ⟨A1p (by rw [HF.out];congr 1;omega),rfl⟩)
 ·have HF:=Hi (show A8f n=(0,4) by unfold A8f;rw [if_neg h]);have HN:=Hi h;clear h;go_enter Tryz.func182,Tryz.ntmps182;go_wp2
  all_goals first
   | (exfalso;have:=HN.out;omega)
   | (go_ret2;exact ⟨A1p HF.out,rfl⟩)
theorem B4e : (Tryz.prog.info? 5).map (fun i => (i.zero,i.size,i.bytes)) = some (some (.int .u8 0),1,1) := by kernel_rfl
theorem E1p {N : Nat} (v : Value) (l : List UInt8) (w : World) (h : A4a N 1 A1e w [v] l) (hl : l.length ≤ 140737488354000) :
 Calls Tryz.prog 40 #[v] w (RetBs 5 w (A3f l)):=by
 obtain ⟨i0,hi,hz0,hz1,hz2⟩:=info_parts B4e;have H:=Hi h;have hlk:=B0o l.length;have HI:=Hi (And.intro hi (And.intro hz0 (And.intro hz1 hz2)));obtain ⟨a,cap,hv⟩:∃ a cap,v=.slice a l.length cap:=by
  obtain ⟨a,cap,hv,_⟩:=h;exact ⟨a,cap,by simpa using hv⟩
 subst hv;have HL:=Hi (show (-((l.length:Int) % 512)) % 512=(A6u l.length:Int) by unfold A6u;omega);clear h hi hz0 hz1 hz2;go_enter Tryz.func40,Tryz.ntmps40
 go_wp2_with (first
  | (at_builtin;refine A9b _ rfl (.const (.slice none 0 0)) (.tmp 9) 24 24 rfl _ _ rfl rfl (fun ty=>A1h (l:=[]) (B:=w.heap.size) _ _ _ _ _ i0 Tryz.underlying24 Tryz.underlying24 HI.out.1 HI.out.2.1 HI.out.2.2.1 HI.out.2.2.2 (OwnBs.nil _ _ _) H.out (by simp;omega) lr ty) ?_;intro v1 w1 ho hg _;have HO:=Hi (OwnBs.app (l:=[]) ho);have HB:=Hi (A7b (Below.refl w.heap.size w) hg (World.ownsRow_nil w w.heap.size 5 1) lr);clear ho hg)
  | (at_builtin;refine A9b _ rfl (.tmp 10) (.tmp 11) 24 3 rfl _ (.int .i64 (A6u l.length)) rfl (congrArg (Value.int .i64) HL.out) (fun ty=>C4x (B:=w.heap.size) _ _ _ _ i0 Tryz.underlying24 Tryz.underlying3 HI.out.1 HI.out.2.1 HI.out.2.2.1 HI.out.2.2.2 (A6u l.length) HO.out (by simp;omega) HB.out.size ty) ?_;intro v2 w2 ho hg _;have HO2:=Hi (OwnBs.appz ho);have HB2:=Hi (A7b HB.out hg HO.out HB.out.size);clear ho hg))
 go_ret;refine ⟨_,rfl,?_,HB2.out⟩;have e:=HO2.out;simp only [List.nil_append] at e;exact e
theorem C3b {N : Nat} (v : Value) (l : List UInt8) (w : World) (h : A4a N 1 A1e w [v] l) (hl : l.length ≤ 140737488354000) :
 Calls Tryz.prog 44 #[v] w (RetBs 5 w (A3f l)):=by
 obtain ⟨i0,hi,hz0,hz1,hz2⟩:=info_parts B4e;have HI:=Hi (And.intro hi (And.intro hz0 (And.intro hz1 hz2)));have hlk:=B0o l.length;have h0:OwnBs 5 (w.alloc (.cells #[] 5)) w.heap.size (.slice (some ⟨w.heap.size,0,none⟩) 0 0) []:=World.ownsRow_made w #[] 0 lr (by simp) rfl;have H0:=Hi h0;have hb0:=(Below.refl w.heap.size w).alloc lr (.cells #[] 5);have H:=Hi (h.below (w':=w.alloc (.cells #[] 5)) (fun _ _ h=>h) hb0);have HB0:=Hi hb0;have hsz0:w.heap.size<=(w.alloc (.cells #[] 5)).heap.size:=hb0.size;have HS0:=Hi hsz0;clear h h0 hb0 hsz0 hi hz0 hz1 hz2;go_enter Tryz.func44,Tryz.ntmps44;go_wp2_with (at_builtin;refine A9b _ rfl (.tmp 4) (.tmp 5) 24 24 rfl _ _ rfl rfl (fun ty=>A1h (l:=[]) (B:=w.heap.size) _ _ _ _ _ i0 Tryz.underlying24 Tryz.underlying24 HI.out.1 HI.out.2.1 HI.out.2.2.1 HI.out.2.2.2 H0.out H.out (by simp;omega) HS0.out ty) ?_;intro v1 w1 ho hg _;have HO:=Hi (OwnBs.app (l:=[]) ho);have HB:=Hi (A7b HB0.out hg H0.out HS0.out);clear ho hg)
 go_loopw [3] (fun v wr=>∃ m:Nat,m<=A6u l.length/\OwnBs 5 wr w.heap.size v (l++List.replicate m 0)/\Below w.heap.size w wr) (fun v _=>512-(vlen v+511) % 512)
 case atStart=>exact ⟨0,by omega,by have:=HO.out;simpa using this,HB.out⟩
 case round =>
  obtain ⟨m,hm,ho,hb⟩:=hrel;have HO:=Hi ho;have HBR:=Hi hb;have hlen:(l++List.replicate m (0:UInt8)).length=l.length+m:=by simp
  obtain ⟨a,cap,hv⟩:∃ a cap,u3=.slice a (l.length+m) cap:=by
   rcases ho.form with ⟨e1,e2⟩|⟨g,cap,e1,_⟩
   ·have:=congrArg List.length e2;rw [hlen] at this;simp at this;exact ⟨none,0,by rw [e1];simp [this]⟩
   ·exact ⟨_,_,by rw [e1,hlen]⟩
  subst hv;have HL:=Hi hlen;have hbsz:=hb.size;clear ho hb hlen;by_cases he:(l.length+m) % 512=0
  ·have HM:=Hi (D0r he hm);have hq:((((l.length+m:Nat):Int) % 512) != 0)=false:=by rw [bne_eq_false_iff_eq];omega
   clear he;go_wp2;go_ret;refine ⟨_,rfl,?_,HBR.out⟩;have e:A3f l=l++List.replicate m 0:=by rw [HM.out];rfl
   rw [e];exact HO.out
  ·have HM:=Hi (E6r he hm);have hq:((((l.length+m:Nat):Int) % 512) != 0)=true:=by rw [bne_iff_ne];omega
   have HE:=Hi he;have hb1:=(Below.refl wr.heap.size wr).alloc lr (.cells #[.int .u8 0] 5);have HO1:=Hi (World.ownsRow.alloc HO.out (.cells #[.int .u8 0] 5));have HSZ:=Hi (show w.heap.size<=(wr.alloc (.cells #[.int .u8 0] 5)).heap.size from Nat.le_trans hbsz hb1.size);have HB1:=Hi (HBR.out.alloc hbsz (.cells #[.int .u8 0] 5));clear he hb1;go_wp2_with (at_builtin;refine A9b _ rfl (.tmp 11) (.tmp 12) 24 24 rfl _ _ rfl rfl (n:=(l++List.replicate m (0:UInt8)).length) (fun ty=>A8g _ _ _ _ w.heap.size 5 i0 (.int .u8 0) 1 1 Tryz.underlying24 HI.out.1 HI.out.2.1 HI.out.2.2.1 HI.out.2.2.2 rfl (by decide) _ _ _ _ _ _ HO1.out (B3z wr _ _ _ Tryz.underlying24 _ rfl) (by rw [HL.out];unfold maxLen;omega) (by rw [HL.out];omega) HSZ.out) ?_;intro v1 w1 ho hg _)
   have HO2:=Hi (OwnBs.app (m:=[0]) ho);have HB2:=Hi (A7b HB1.out hg HO1.out HSZ.out);clear ho hg;go_wp2;go_roundw
   case rel=>exact ⟨m+1,by have:=HM.out;omega,by rw [<-F5n];exact HO2.out,HB2.out⟩
   case measure =>
    have h1:vlen v1=l.length+m+1:=by
     rcases HO2.out.form with ⟨_,e2⟩|⟨g,c,e1,_⟩
     ·simp at e2
     ·rw [e1];simp [vlen];omega
    have h2:=HM.out;have h3:=HE.out;show 512-(vlen v1+511) % 512<512-(l.length+m+511) % 512
    rw [h1];omega
theorem C9o (s : ByteArray) (c : UInt8) (n : Int) (hn : n = c.toNat) (w : World) (hs : s.size ≤ maxLen) :
 Calls Tryz.prog 189 #[.string s,.int .u8 n] w fun e w'=>e=.returned (.string (ofL (B3t c s.data.toList)))/\w=w':=by
 unfold maxLen at hs;have HN:=Hi hn;clear hn;go_enter Tryz.func189,Tryz.ntmps189;go_wp2
 go_loop [0] (fun v=>∃ t:ByteArray,v=.string t/\t.size<=s.size/\Hid (B3t c t.data.toList=B3t c s.data.toList)) (fun v=>slen v)
 case atStart=>exact ⟨s,rfl,Nat.le_refl _,rfl⟩
 case round =>
  obtain ⟨t,rfl,ht,HT⟩:=hrel;by_cases h0:0<t.size
  ·have HB:=Hi (A4f t 0 h0);have hb':t[0].toNat<256:=UInt8.toNat_lt _;by_cases hc:byt t 0=c.toNat
   ·have hq:(((t[0].toNat:Nat):Int)==n)=true:=by rw [HN.out,HB.out,hc];simp
    have HS:=Hi (E7s h0 hc);clear hc;go_wp2
    go_round
    case rel=>exact ⟨_,rfl,by simp;omega,HS.out.trans HT.out⟩
    case measure=>simp [slen];omega
   ·have hq:(((t[0].toNat:Nat):Int)==n)=false:=by rw [HN.out,HB.out,beq_eq_false_iff_ne];omega
    have HS:=Hi (C7i (c:=c) (t:=t) (.inr hc));clear hc;go_wp2;go_ret;exact ⟨E1b (by rw [<-HT.out,HS.out,C2n]),rfl⟩
  ·have HS:=Hi (C7i (c:=c) (t:=t) (.inl (by omega)));go_wp2;go_ret;exact ⟨E1b (by rw [<-HT.out,HS.out,C2n]),rfl⟩
theorem C6g (s : ByteArray) (c : UInt8) (n : Int) (hn : n = c.toNat) (w : World) (hs : s.size ≤ maxLen) :
 Calls Tryz.prog 190 #[.string s,.int .u8 n] w fun e w'=>e=.returned (.string (ofL (A9w c s.data.toList)))/\w=w':=by
 unfold maxLen at hs;have HN:=Hi hn;clear hn;go_enter Tryz.func190,Tryz.ntmps190;go_wp2
 go_loop [0] (fun v=>∃ t:ByteArray,v=.string t/\t.size<=s.size/\Hid (A9w c t.data.toList=A9w c s.data.toList)) (fun v=>slen v)
 case atStart=>exact ⟨s,rfl,Nat.le_refl _,rfl⟩
 case round =>
  obtain ⟨t,rfl,ht,HT⟩:=hrel;by_cases h0:0<t.size
  ·have h1:t.size-1<t.size:=by omega
   have HB:=Hi (A4f t (t.size-1) h1);have hb':t[t.size-1].toNat<256:=UInt8.toNat_lt _;by_cases hc:byt t (t.size-1)=c.toNat
   ·have hq:(((t[t.size-1].toNat:Nat):Int)==n)=true:=by rw [HN.out,HB.out,hc];simp
    have HS:=Hi (E4q h0 hc);clear hc;go_wp2
    go_round
    case rel=>exact ⟨_,rfl,by simp;omega,HS.out.trans HT.out⟩
    case measure=>simp [slen];omega
   ·have hq:(((t[t.size-1].toNat:Nat):Int)==n)=false:=by rw [HN.out,HB.out,beq_eq_false_iff_ne];omega
    have HS:=Hi (C4h (c:=c) (t:=t) (.inr hc));clear hc;go_wp2;go_ret;exact ⟨E1b (by rw [<-HT.out,HS.out,C2n]),rfl⟩
  ·have HS:=Hi (C4h (c:=c) (t:=t) (.inl (by omega)));go_wp2;go_ret;exact ⟨E1b (by rw [<-HT.out,HS.out,C2n]),rfl⟩
theorem C3f (s : ByteArray) (w : World) (hs : s.size ≤ maxLen) :
 Calls Tryz.prog 130 #[.string s,.string ⟨#[0]⟩] w fun e w'=>e=.returned (.string (ofL (B3t 0 (A9w 0 s.data.toList))))/\Below w.heap.size w w':=by
 by_cases h0:s.size=0
 ·have HF:=Hi (show ofL (B3t 0 (A9w 0 s.data.toList))=s by rw [C4h (.inl h0),C7i (.inl h0),C2n]);have he:=A8h h0;clear h0;go_enter Tryz.func130,Tryz.ntmps130;go_wp2;go_ret;exact ⟨E1b HF.out,Below.refl _ _⟩
 ·have he:=A9e h0;have hr:=D1p 0 s.data.toList;rw [<-Lib.size_eq s] at hr;have hz:(ofL (A9w 0 s.data.toList)).size<=maxLen:=by rw [A7a];omega
  have HR:=Hi (fun (w:World)=>C6g s 0 0 rfl w hs);have hl:=fun (w:World)=>C9o (ofL (A9w 0 s.data.toList)) 0 0 rfl w hz
  rw [A0d] at hl;have HL:=Hi hl;clear h0 hr hz hl hs;go_enter Tryz.func130,Tryz.ntmps130;go_wp2_with fail
  go_quiet ((first|(go_at_call 190;exact A2n (HR.out _))|(go_at_call 189;exact A2n (HL.out _))))
  go_wp2;go_ret;exact ⟨rfl,A6a _ _ _⟩
theorem D2w {s : ByteArray} (h : F3h s) (w : World) (hs : s.size ≤ maxLen) :
 Calls Tryz.prog 130 #[.string s,.string ⟨#[0]⟩] w fun e w'=>e=.returned (.string ⟨#[]⟩)/\Below w.heap.size w w':=by
 refine (C3f s w hs).mono ?_;rintro e w' ⟨rfl,hb⟩;rw [B8u.2 h];exact ⟨rfl,hb⟩
theorem F4r {s : ByteArray} (h : ¬ F3h s) (w : World) (hs : s.size ≤ maxLen) :
 Calls Tryz.prog 130 #[.string s,.string ⟨#[0]⟩] w fun e w'=>Below w.heap.size w w'/\∃ t:ByteArray,e=.returned (.string t)/\t.toList.isEmpty=false:=by
 refine (C3f s w hs).mono ?_;rintro e w' ⟨rfl,hb⟩;refine ⟨hb,_,rfl,A9e ?_⟩;rw [A7a];intro e;exact h (B8u.1 (List.eq_nil_of_length_eq_zero e))
theorem D9k (s : ByteArray) (b : Bool) (w : World) (hs : s.size ≤ maxLen) :
 Calls Tryz.prog 209 #[.string s,.bool b] w fun e w'=>e=.returned (.tuple #[.string (A8e s b).1,.int .i64 (A8e s b).2])/\Below w.heap.size w w':=by
 have hs':=hs;unfold maxLen at hs;by_cases h:s.size<1\/512<s.size
 ·have HF:=Hi (C3e (b:=b) h);rcases h with h|h
  ·go_enter Tryz.func209,Tryz.ntmps209;go_wp2;go_ret2;exact ⟨A1c HF.out,Below.refl _ _⟩
  ·go_enter Tryz.func209,Tryz.ntmps209;go_wp2;go_ret2;exact ⟨A1c HF.out,Below.refl _ _⟩
 ·have h1:1<=s.size:=by omega
  have h2:s.size<=512:=by omega
  have HN:=Hi h;clear h;rcases E3p s with ⟨hz,hi⟩|⟨hz,hi⟩
  ·have hall:F3h (s.extract (C0q s) s.size):=by
    intro x hx;rw [hz,C9n] at hx;cases hx
   have hd:decide (0<=firstIdx s 0)=false:=by rw [hi];rfl
   cases b with
   | false =>
     have HF:=Hi (B2i (b:=false) HN.out (.inl ⟨hz,rfl⟩));clear hz hi hall;go_enter Tryz.func209,Tryz.ntmps209;go_wp2_with (first|(go_at_call 84;refine (A6b _ _ _).mono ?_;rintro e w' ⟨rfl,rfl⟩))
     go_ret2;exact ⟨A1c HF.out,Below.refl _ _⟩
   | true =>
     have HF:=Hi ((B1p (b:=true) HN.out (by simp [hall])).trans (by rw [hz,E4e]));clear hz hi hall;go_enter Tryz.func209,Tryz.ntmps209;go_wp2_with (first|(go_at_call 84;refine (A6b _ _ _).mono ?_;rintro e w' ⟨rfl,rfl⟩)|(go_at_call 130;refine (D2w (s:=⟨#[]⟩) (fun x hx=>by cases hx) _ (by decide)).mono ?_;rintro e w' ⟨rfl,hb⟩;have HB:=Hi hb;clear hb))
     go_ret2;exact ⟨A1c HF.out,HB.out⟩
  ·have hd:decide (0<=firstIdx s 0)=true:=by rw [hi];simp
   have hne:((s.extract (C0q s) s.size).toList.isEmpty)=false:=A9e (by simp;omega);have hsz:(s.extract (C0q s) s.size).size<=maxLen:=by unfold maxLen;simp;omega
   by_cases hall:F3h (s.extract (C0q s) s.size)
   ·have HF:=Hi (B1p (b:=b) HN.out (by simp [hall];intro e;omega));have HT:=Hi (fun (w:World)=>D2w hall w hsz);clear hall hsz;generalize C0q s=z at *;go_enter Tryz.func209,Tryz.ntmps209;go_wp2_with (go_at_call 84;refine (A6b _ _ _).mono ?_;rintro e w' ⟨rfl,rfl⟩)
    go_quiet (fail)
    go_wp2_with (go_at_call 130;refine (HT.out _).mono ?_;rintro e w' ⟨rfl,hb⟩;have HB:=Hi hb;clear hb)
    go_ret2;exact ⟨A1c HF.out,(A6a w.heap.size _ _).trans HB.out⟩
   ·have HF:=Hi (B2i (b:=b) HN.out (.inr hall));have HT:=Hi (fun (w:World)=>F4r hall w hsz);clear hall hsz;generalize C0q s=z at *;go_enter Tryz.func209,Tryz.ntmps209;go_wp2_with (go_at_call 84;refine (A6b _ _ _).mono ?_;rintro e w' ⟨rfl,rfl⟩)
    go_quiet (fail)
    go_wp2_with (go_at_call 130;refine (HT.out _).mono ?_;rintro e w' ⟨hb,t,rfl,htt⟩;have HB:=Hi hb;clear hb)
    go_ret2;exact ⟨A1c HF.out,(A6a w.heap.size _ _).trans HB.out⟩
end Go.Proofs.YtaffgndickdbiaaGreatDoor
