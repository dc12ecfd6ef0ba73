/-
  Texts: OctalRead, HeadRSpec, PadCut.
-/
import Derived.Test.YtaffgndickdbiaaGreatDoorQ09
import Derived.Deep.RegionLaw
set_option linter.unusedVariables false
set_option linter.unusedSimpArgs false
set_option linter.unusedSectionVars false
namespace Go.Creel
def odig (s : ByteArray) (k : Nat) : Prop := 48 ≤ byt s k ∧ byt s k ≤ 55
def oval (s : ByteArray) : Nat → Nat
 | 0=>0
 | k+1=>8*oval s k+(byt s k-48)
open Classical in
noncomputable def octOf (s : ByteArray) : Int × Int :=
 if 2<=s.size/\s.size<=12 then
  if (∀ k,k<s.size-1->odig s k)/\byt s (s.size-1)=0 then ((oval s (s.size-1):Int),0) else (0,3)
 else (0,4)
theorem oval_lt (s : ByteArray) (k : Nat) (h : ∀ i,i < k → odig s i) : oval s k < 8 ^ k := by
 induction k with
 | zero=>simp [oval]
 | succ k ih =>
   have h1:=ih (fun i hi=>h i (by omega))
   have h2:=h k (by omega)
   unfold odig at h2
   simp only [oval,Nat.pow_succ];omega
theorem octOf_no {s : ByteArray} {k : Nat} (h1 : 2 ≤ s.size) (h2 : s.size ≤ 12) (hk : k < s.size - 1) (h : ¬ odig s k) : octOf s = (0,3) := by
 unfold octOf;rw [if_pos ⟨h1,h2⟩,if_neg (fun hh=>h (hh.1 k hk))]
theorem octOf_last {s : ByteArray} (h1 : 2 ≤ s.size) (h2 : s.size ≤ 12) (h : byt s (s.size - 1) ≠ 0) : octOf s = (0,3) := by
 unfold octOf;rw [if_pos ⟨h1,h2⟩,if_neg (fun hh=>h hh.2)]
theorem octOf_yes {s : ByteArray} (h1 : 2 ≤ s.size) (h2 : s.size ≤ 12) (hd : ∀ k,k < s.size - 1 → odig s k) (h : byt s (s.size - 1) = 0) : octOf s = ((oval s (s.size - 1) : Int),0) := by
 unfold octOf;rw [if_pos ⟨h1,h2⟩,if_pos ⟨hd,h⟩]
theorem octOf_size {s : ByteArray} (h : ¬ (2 ≤ s.size ∧ s.size ≤ 12)) : octOf s = (0,4) := by
 unfold octOf;rw [if_neg h]
theorem pow8_le {k : Nat} (h : k ≤ 11) : 8 ^ k ≤ 8589934592 := by
 have:8 ^ k<=8 ^ 11:=Nat.pow_le_pow_right (by decide) h
 have e:(8:Nat) ^ 11=8589934592:=by decide
 omega
theorem rsum_step (s : ByteArray) (k j : Nat) : oval s k * 8 ^ (j + 1) + (byt s k - 48) * 8 ^ j = oval s (k + 1) * 8 ^ j := by
 simp only [oval,Nat.pow_succ,Nat.add_mul]
 have:oval s k*(8 ^ j*8)=8*oval s k*8 ^ j:=by rw [Nat.mul_comm (8 ^ j) 8,<-Nat.mul_assoc,Nat.mul_comm (oval s k) 8]
 omega
end Go.Creel
namespace Go.Proofs.YtaffgndickdbiaaGreatDoor
open Go.Creel Go.RowKit
set_option maxRecDepth 100000 in
set_option maxHeartbeats 1000000 in
theorem OctRead_any (s : ByteArray) (w : World) (hs : s.size ≤ maxLen) :
 Calls Tryz.prog 165 #[.string s] w fun e w'=>e = .returned (.tuple #[.int .i64 (octOf s).1,.int .i64 (octOf s).2])/\w=w':=by
 unfold maxLen at hs
 by_cases h:2<=s.size/\s.size<=12
 ·obtain ⟨h1,h2⟩:=h
  have hM:=octMost_in (W:=s.size) h1 h2
  go_enter Tryz.func165,Tryz.ntmps165
  go_wp2_with fail
  refine (Most_any _ _).mono ?_
  rintro e w' ⟨rfl,rfl⟩
  rw [hM]
  clear hM
  go_wp2
  go_loop [6,7,20] (fun n _ i=>∃ k:Nat,k<=s.size-1/\i = .int .i64 k/\n = .int .i64 (oval s k)/\Hid (∀ j,j<k->odig s j)) (fun _ _ i=>s.size-(intOf i).toNat)
  case atStart=>exact ⟨0,by omega,rfl,rfl,fun j hj=>absurd hj (by omega)⟩
  case round =>
   obtain ⟨k,hk,rfl,rfl,HD⟩:=hrel
   have hv:=oval_lt s k HD.out
   have hp:=pow8_le (k:=k) (by omega)
   have hv2:oval s k<=8589934592:=by omega
   clear hv hp
   by_cases hlt:k<s.size-1
   ·have hks:k<s.size:=by omega
    have hb':s[k].toNat<256:=UInt8.toNat_lt _
    have HB:=Lib.hid (byt_get s k hks)
    by_cases hd:odig s k
    ·have hd1:48<=s[k].toNat:=by rw [HB.out];exact hd.1
     have hd2:s[k].toNat<=55:=by rw [HB.out];exact hd.2
     have HN:=Lib.hid (show oval s (k+1)=8*oval s k+(byt s k-48) from rfl)
     have HD1:=Lib.hid hd
     clear hd
     go_wp2
     go_round
     case rel =>
      refine ⟨k+1,by omega,by go_num,?_,fun j hj=>?_⟩
      ·have e:=HB.out
       rw [HN.out,<-e];congr 1;omega
      ·by_cases e:j=k
       ·rw [e];exact HD1.out
       ·exact HD.out j (by omega)
     case measure=>simp [intOf];omega
    ·have HF:=Lib.hid (octOf_no h1 h2 hlt hd)
     by_cases hd1:s[k].toNat<48
     ·clear hd
      go_wp2
      go_ret2
      exact ⟨ret_ii HF.out,rfl⟩
     ·have hd2:55<s[k].toNat:=by
       rw [HB.out] at hd1 ⊢
       unfold odig at hd;omega
      clear hd
      go_wp2
      go_ret2
      exact ⟨ret_ii HF.out,rfl⟩
   ·obtain rfl:k=s.size-1:=by omega
    have hks:s.size-1<s.size:=by omega
    have HB:=Lib.hid (byt_get s _ hks)
    have hb':s[s.size-1].toNat<256:=UInt8.toNat_lt _
    by_cases hz:byt s (s.size-1)=0
    ·have HF:=Lib.hid (octOf_yes h1 h2 HD.out hz)
     have hz':s[s.size-1].toNat=0:=by rw [HB.out];exact hz
     have hz3:(((s[s.size-1].toNat:Nat):Int) != 0)=false:=by simp [hz']
     clear hz hz'
     go_wp2
     go_ret2
     exact ⟨ret_ii HF.out,rfl⟩
    ·have HF:=Lib.hid (octOf_last h1 h2 hz)
     have hz':s[s.size-1].toNat≠0:=by rw [HB.out];exact hz
     have hz3:(((s[s.size-1].toNat:Nat):Int) != 0)=true:=by rw [bne_iff_ne];omega
     clear hz hz'
     go_wp2
     go_ret2
     exact ⟨ret_ii HF.out,rfl⟩
 ·have HF:=Lib.hid (octOf_size h)
  have hM:octMost (s.size:Int)=(0,4):=by simp only [octMost];rw [if_neg (by omega)]
  clear h
  go_enter Tryz.func165,Tryz.ntmps165
  go_wp2_with fail
  refine (Most_any _ _).mono ?_
  rintro e w' ⟨rfl,rfl⟩
  rw [hM]
  clear hM
  go_wp2
  go_ret2
  exact ⟨ret_ii HF.out,rfl⟩
set_option maxRecDepth 100000 in
set_option maxHeartbeats 1000000 in
theorem OctalOf_any (s : ByteArray) (w : World) (hs : s.size ≤ maxLen) :
 Calls Tryz.prog 180 #[.string s] w fun e w'=>e = .returned (.tuple #[.int .i64 (octOf s).1,.int .i64 (octOf s).2])/\Below w.heap.size w w':=by
 unfold maxLen at hs
 by_cases h:2<=s.size/\s.size<=12
 ·obtain ⟨h1,h2⟩:=h
  go_enter Tryz.func180,Tryz.ntmps180
  go_wp2
  go_loopw [4,5] (fun n i wr=>∃ k:Nat,k<=s.size-1/\i = .int .i64 k/\n = .int .i64 ((oval s k*8 ^ (s.size-1-k):Nat):Int)/\Hid (∀ j,j<k->odig s j)/\Below w.heap.size w wr) (fun _ i _=>s.size-(intOf i).toNat)
  case atStart=>exact ⟨0,by omega,rfl,by simp [oval],fun j hj=>absurd hj (by omega),Below.refl _ _⟩
  case round =>
   obtain ⟨k,hk,rfl,rfl,HD,hB⟩:=hrel
   have HBW:=Lib.hid hB
   clear hB
   have hv:=oval_lt s k HD.out
   have hp:=pow8_le (k:=s.size-1) (by omega)
   have hv2:oval s k*8 ^ (s.size-1-k)<=8589934592:=by
    have e:8 ^ k*8 ^ (s.size-1-k)=8 ^ (s.size-1):=by rw [<-Nat.pow_add];congr 1;omega
    have:=Nat.mul_le_mul_right (8 ^ (s.size-1-k)) (Nat.le_of_lt hv)
    omega
   clear hv hp
   by_cases hlt:k<s.size-1
   ·have hks:k<s.size:=by omega
    have hb':s[k].toNat<256:=UInt8.toNat_lt _
    have HB:=Lib.hid (byt_get s k hks)
    by_cases hd:odig s k
    ·have hd1:48<=s[k].toNat:=by rw [HB.out];exact hd.1
     have hd2:s[k].toNat<=55:=by rw [HB.out];exact hd.2
     have e1:s.size-1-k=(s.size-2-k)+1:=by omega
     have HN:=Lib.hid (rsum_step s k (s.size-2-k))
     rw [e1] at hv2 ⊢
     have hp1:=pow8_le (k:=s.size-2-k) (by omega)
     have e2:s.size-1-(k+1)=s.size-2-k:=by omega
     have HE2:=Lib.hid e2
     have HD1:=Lib.hid hd
     clear hd e1 e2
     generalize hX:oval s k*8 ^ (s.size-2-k+1)=X at *
     have hm:(s[k].toNat-48)*8 ^ (s.size-2-k)<=7*8 ^ (s.size-2-k):=Nat.mul_le_mul_right _ (by omega)
     have hm0:((s[k].toNat:Int)-48)*((8 ^ (s.size-2-k):Nat):Int)=(((s[k].toNat-48)*8 ^ (s.size-2-k):Nat):Int):=by
      rw [Int.natCast_mul];congr 1;omega
     have HX:=Lib.hid hX
     clear hX
     have ha:(s.size:Int)-2-(k:Int)=((s.size-2-k:Nat):Int):=by omega
     have hp0:0<=(8:Nat) ^ (s.size-2-k):=Nat.zero_le _
     have hpw:=fun (w:World)=>power_any (s.size-2-k) w (by omega)
     rw [<-ha] at hpw
     have HPW:=Lib.hid hpw
     clear ha hpw
     generalize hY:8 ^ (s.size-2-k)=Y at *
     have HY:=Lib.hid hY
     clear hY
     go_wp2_with fail
     go_quiet ((go_at_call 206;exact quiet_same (HPW.out _)))
     go_wp2
     go_roundw
     case rel =>
      refine ⟨k+1,by omega,by go_num,?_,fun j hj=>?_,HBW.out.trans (below_draws _ _ _)⟩
      ·have e:=HB.out
       have h9:=HN.out
       rw [HE2.out,HY.out,<-h9,<-e,Int.natCast_add,Int.natCast_mul]
      ·by_cases e:j=k
       ·rw [e];exact HD1.out
       ·exact HD.out j (by omega)
     case measure=>simp [intOf];omega
    ·have HF:=Lib.hid (octOf_no h1 h2 hlt hd)
     by_cases hd1:s[k].toNat<48
     ·clear hd
      go_wp2
      go_ret2
      exact ⟨ret_ii HF.out,HBW.out⟩
     ·have hd2:55<s[k].toNat:=by
       rw [HB.out] at hd1 ⊢
       unfold odig at hd;omega
      clear hd
      go_wp2
      go_ret2
      exact ⟨ret_ii HF.out,HBW.out⟩
   ·obtain rfl:k=s.size-1:=by omega
    have hks:s.size-1<s.size:=by omega
    have HB:=Lib.hid (byt_get s _ hks)
    have hb':s[s.size-1].toNat<256:=UInt8.toNat_lt _
    have HV:Hid (oval s (s.size-1)*8 ^ (s.size-1-(s.size-1))=oval s (s.size-1)):=by show _=_;simp
    by_cases hz:byt s (s.size-1)=0
    ·have HF:=Lib.hid (octOf_yes h1 h2 HD.out hz)
     have hz':s[s.size-1].toNat=0:=by rw [HB.out];exact hz
     have hz3:(((s[s.size-1].toNat:Nat):Int) != 0)=false:=by simp [hz']
     clear hz hz'
     rw [HV.out]
     go_wp2
     go_ret2
     exact ⟨ret_ii HF.out,HBW.out⟩
    ·have HF:=Lib.hid (octOf_last h1 h2 hz)
     have hz':s[s.size-1].toNat≠0:=by rw [HB.out];exact hz
     have hz3:(((s[s.size-1].toNat:Nat):Int) != 0)=true:=by rw [bne_iff_ne];omega
     clear hz hz'
     rw [HV.out]
     go_wp2
     go_ret2
     exact ⟨ret_ii HF.out,HBW.out⟩
 ·have HF:=Lib.hid (octOf_size h)
  by_cases h1:s.size<2
  ·clear h
   go_enter Tryz.func180,Tryz.ntmps180
   go_wp2
   go_ret2
   exact ⟨ret_ii HF.out,Below.refl _ _⟩
  ·have h2:12<s.size:=by omega
   clear h
   go_enter Tryz.func180,Tryz.ntmps180
   go_wp2
   go_ret2
   exact ⟨ret_ii HF.out,Below.refl _ _⟩
end Go.Proofs.YtaffgndickdbiaaGreatDoor
namespace Go.Creel
theorem list7 {l : List UInt8} (h : l.length = 7) : ∃ a b c d e f g,l = [a,b,c,d,e,f,g] := by
 match l,h with
 | [a,b,c,d,e,f,g],_=>exact ⟨a,b,c,d,e,f,g,rfl⟩
theorem digs6 (n : Nat) : digs 6 n = [UInt8.ofNat (48 + n / 32768 % 8),UInt8.ofNat (48 + n / 4096 % 8),UInt8.ofNat (48 + n / 512 % 8),UInt8.ofNat (48 + n / 64 % 8),UInt8.ofNat (48 + n / 8 % 8),UInt8.ofNat (48 + n % 8)] := by
 simp [digs]
theorem u8_of {a : UInt8} {n : Nat} (h : n = a.toNat) : UInt8.ofNat n = a := by
 subst h;exact UInt8.toNat_inj.1 (by simp)
theorem u8_nat {n : Nat} (h : n < 256) : (UInt8.ofNat n).toNat = n := by simp; omega
theorem oct7 {x : ByteArray} (hx : x.size = 7) {n : Nat} (hn : n < 262144) : octOf x = ((n : Int),0) ↔ x = ofL (digs 6 n ++ [0]) := by
 obtain ⟨a,b,c,d,e,f,g,hl⟩:=list7 ((Lib.size_eq x).symm.trans hx)
 have h0:byt x 0=a.toNat:=by unfold byt;rw [hl];rfl
 have h1:byt x 1=b.toNat:=by unfold byt;rw [hl];rfl
 have h2:byt x 2=c.toNat:=by unfold byt;rw [hl];rfl
 have h3:byt x 3=d.toNat:=by unfold byt;rw [hl];rfl
 have h4:byt x 4=e.toNat:=by unfold byt;rw [hl];rfl
 have h5:byt x 5=f.toNat:=by unfold byt;rw [hl];rfl
 have h6:byt x 6=g.toNat:=by unfold byt;rw [hl];rfl
 have hv:oval x 6=8*(8*(8*(8*(8*(byt x 0-48)+(byt x 1-48))+(byt x 2-48))+(byt x 3-48))+(byt x 4-48))+(byt x 5-48):=by simp [oval]
 constructor
 ·intro h
  have hd:(∀ k,k<6->odig x k)/\byt x 6=0:=by
   unfold octOf at h
   rw [if_pos (by omega),hx] at h
   refine Classical.byContradiction fun hc=>?_
   rw [if_neg hc] at h
   simp at h
  have ho:=octOf_yes (s:=x) (by omega) (by omega) (by rw [hx];exact hd.1) (by rw [hx];exact hd.2)
  rw [h,hx] at ho
  simp only [Prod.mk.injEq,and_true,show (7:Nat)-1=6 from rfl] at ho
  have hon:n=oval x 6:=by omega
  obtain ⟨p0,q0⟩:=hd.1 0 (by omega)
  obtain ⟨p1,q1⟩:=hd.1 1 (by omega)
  obtain ⟨p2,q2⟩:=hd.1 2 (by omega)
  obtain ⟨p3,q3⟩:=hd.1 3 (by omega)
  obtain ⟨p4,q4⟩:=hd.1 4 (by omega)
  obtain ⟨p5,q5⟩:=hd.1 5 (by omega)
  have hg:g=0:=UInt8.toNat_inj.1 (by rw [<-h6,hd.2];rfl)
  rw [hv] at hon
  apply ext_bytes
  rw [hl,ofL_data,digs6,hg]
  simp only [List.cons_append,List.nil_append,List.cons.injEq,and_true]
  refine ⟨(u8_of ?_).symm,(u8_of ?_).symm,(u8_of ?_).symm,(u8_of ?_).symm,(u8_of ?_).symm,(u8_of ?_).symm⟩<;>omega
 ·intro h
  have hl2:[a,b,c,d,e,f,g]=digs 6 n++[0]:=by
   rw [<-hl,h,ofL_data]
  rw [digs6] at hl2
  simp only [List.cons_append,List.nil_append,List.cons.injEq,and_true] at hl2
  obtain ⟨rfl,rfl,rfl,rfl,rfl,rfl,rfl⟩:=hl2
  rw [u8_nat (by omega)] at h0 h1 h2 h3 h4 h5
  have hd:∀ k,k<6->odig x k:=by
   intro k hk
   unfold odig
   match k,hk with
   | 0,_=>omega
   | 1,_=>omega
   | 2,_=>omega
   | 3,_=>omega
   | 4,_=>omega
   | 5,_=>omega
  rw [octOf_yes (s:=x) (by omega) (by omega) (by rw [hx];exact hd) (by rw [hx];exact h6),hx]
  simp only [Prod.mk.injEq,and_true,show (7:Nat)-1=6 from rfl]
  omega
theorem extract_two (s : ByteArray) (a b c : Nat) (h1 : a ≤ b) (h2 : b ≤ c) : s.extract a c = s.extract a b ++ s.extract b c := by
 apply ext_bytes
 rw [ByteArray.data_append,Array.toList_append,Lib.extract_data,Lib.extract_data,Lib.extract_data]
 have e:c-a=(b-a)+(c-b):=by omega
 rw [e,List.take_add]
 congr 2
 rw [List.drop_drop]
 congr 1
 omega
theorem extract_one (s : ByteArray) (k : Nat) (h : k < s.size) : s.extract k (k + 1) = ofL [s[k]] := by
 apply ext_bytes
 rw [Lib.extract_data,ofL_data]
 have e:k+1-k=1:=by omega
 rw [e,List.drop_eq_getElem_cons (by simpa using h)]
 simp
 rfl
theorem append_cut {a b c d : ByteArray} (h : a.size = c.size) : a ++ b = c ++ d ↔ a = c ∧ b = d := by
 constructor
 ·intro e
  have e1:a.data.toList++b.data.toList=c.data.toList++d.data.toList:=by
   rw [<-Array.toList_append,<-Array.toList_append,<-ByteArray.data_append,<-ByteArray.data_append,e]
  have hl:a.data.toList.length=c.data.toList.length:=by rw [<-Lib.size_eq,<-Lib.size_eq];exact h
  obtain ⟨h1,h2⟩:=List.append_inj e1 hl
  exact ⟨ext_bytes h1,ext_bytes h2⟩
 ·rintro ⟨rfl,rfl⟩;rfl
noncomputable def sumOk (s : ByteArray) : Bool := decide ((octOf (s.extract 148 155)).2 = 0) && decide ((octOf (s.extract 148 155)).1 = (headSum s).1) && decide (byt s 155 = 32)
theorem sumOk_ref {s : ByteArray} (h : s.size = 512) : (s.extract 148 156 = (octText (headSum s).1 7).1 ++ ofL [32]) ↔ sumOk s = true := by
 have hb:=headSum_bd h
 obtain ⟨n,hn⟩:∃ n:Nat,(headSum s).1=n:=⟨(headSum s).1.toNat,by omega⟩
 have hsz:(s.extract 148 155).size=7:=by simp;omega
 have ht:(octText (headSum s).1 7).1=ofL (digs 6 n++[0]):=by
  rw [hn]
  have e1:((7:Int)-1).toNat=6:=rfl
  unfold octText
  rw [if_pos (by omega),e1,if_pos (by omega)]
  rfl
 rw [ht,extract_two s 148 155 156 (by omega) (by omega),extract_one s 155 (by omega),append_cut (by rw [hsz,ofL_size];simp [digs_length]),<-oct7 hsz (by omega)]
 have e2:(ofL [s[155]]=ofL [32])↔byt s 155=32:=by
  rw [<-byt_get s 155 (by omega)]
  constructor
  ·intro e
   have:(ofL [s[155]]).data.toList=(ofL [32]).data.toList:=by rw [e]
   rw [ofL_data,ofL_data] at this
   simp only [List.cons.injEq,and_true] at this
   rw [this];rfl
  ·intro e
   have:s[155]=32:=UInt8.toNat_inj.1 (by rw [e];rfl)
   rw [this]
 rw [e2]
 unfold sumOk
 simp only [Bool.and_eq_true,decide_eq_true_eq]
 rw [hn]
 constructor
 ·rintro ⟨h1,h2⟩
  rw [h1]
  exact ⟨⟨rfl,rfl⟩,h2⟩
 ·rintro ⟨⟨h1,h2⟩,h3⟩
  exact ⟨Prod.ext h2 h1,h3⟩
def note (e f : Int) : Int := if e = 0 then f else e
theorem note_ok {e f : Int} (h : e = 0) : note e f = f := if_pos h
theorem note_bad {e f : Int} (h : ¬ e = 0) : note e f = e := if_neg h
def zero8 : List UInt8 := [48,48,48,48,48,48,48,0]
def justE (s : ByteArray) (a b : Nat) (t : ByteArray) : Int := if s.extract a b = t then 0 else 3
def typeE (s : ByteArray) : Int := if hasB (ofL [48,49,50,53,120]) (s.data.toList.getD 156 0) = true then 0 else 3
noncomputable def headFaults (s : ByteArray) : List Int :=
 [(fieldOf (s.extract 0 100) true).2,(octOf (s.extract 100 108)).2,(octOf (s.extract 108 116)).2,(octOf (s.extract 116 124)).2,(octOf (s.extract 124 136)).2,(octOf (s.extract 136 148)).2,typeE s,(fieldOf (s.extract 157 257) true).2,
   justE s 257 265 (ofL [117,115,116,97,114,0,48,48]),(fieldOf (s.extract 265 297) false).2,(fieldOf (s.extract 297 329) false).2,justE s 329 345 (ofL (zero8++zero8)),(fieldOf (s.extract 345 500) true).2,justE s 500 512 (zerosS 12)]
noncomputable def headWorst (s : ByteArray) : Int := (headFaults s).foldl note 0
noncomputable def headFields (s : ByteArray) : HeadN :=
 ⟨(fieldOf (s.extract 0 100) true).1,(fieldOf (s.extract 345 500) true).1,(fieldOf (s.extract 157 257) true).1,(octOf (s.extract 100 108)).1,(octOf (s.extract 108 116)).1,(octOf (s.extract 116 124)).1,(octOf (s.extract 124 136)).1,(octOf (s.extract 136 148)).1,s.data.toList.getD 156 0,(fieldOf (s.extract 265 297) false).1,(fieldOf (s.extract 297 329) false).1⟩
def headNone : HeadN := ⟨ByteArray.empty,ByteArray.empty,ByteArray.empty,0,0,0,0,0,0,ByteArray.empty,ByteArray.empty⟩
noncomputable def headOf (s : ByteArray) : HeadN × Int :=
 if ¬ s.size=512 then (headNone,1) else if sumOk s=false then (headNone,8) else if ¬ headWorst s=0 then (headNone,headWorst s) else (headFields s,0)
open Go.RowKit
def zeroB (l : List UInt8) (n k : Nat) : Prop := ∀ i,n ≤ i → i < k → bl l i = 0
open Classical in
noncomputable def padCut (l : List UInt8) (n : Int) : List UInt8 × List UInt8 × Int :=
 if n<0\/8589934591<n then ([],[],4)
 else if l.length<(n.toNat+511) / 512*512 then ([],[],7)
 else if zeroB l n.toNat ((n.toNat+511) / 512*512) then (l.take n.toNat,l.drop ((n.toNat+511) / 512*512),0)
 else ([],[],3)
theorem slice_sub {N : Nat} {w : World} {b off cap : Nat} {l : List UInt8} (hle : l.length ≤ cap) (hm : cap ≤ maxLen) (hN : l.length ≤ N) (hc : ∀ i,i < l.length → w.cell? ⟨b,off + i,none⟩ = some (.int .u8 (bl l i)))
 (i j:Nat) (hj:i+j<=l.length):SliceC N 1 ByteC w [.slice (some ⟨b,off+i,none⟩) j (cap-i)] ((l.drop i).take j):=by
 have hlen:((l.drop i).take j).length=j:=by simp;omega
 refine ⟨some ⟨b,off+i,none⟩,cap-i,by rw [hlen],by omega,by omega,by omega,(fun h=>by cases h),fun _=>⟨b,off+i,rfl,fun m hm=>?_⟩⟩
 rw [hlen] at hm
 refine ⟨[byteV ((l.drop i).take j)[m]],rfl,fun q hq=>?_,rfl⟩
 obtain rfl:q=0:=by omega
 have:=hc (i+m) (by omega)
 rw [show off+i+m*1+0=off+(i+m) by omega,this]
 simp [byteV,bl,List.getD_eq_getElem?_getD,List.getElem?_eq_getElem (show i+m<l.length by omega)]
theorem sub_zero {l : List UInt8} {n k : Nat} (hk : k ≤ l.length) : (∀ x ∈ (l.drop n).take (k - n),x = 0) ↔ zeroB l n k := by
 constructor
 ·intro h i h1 h2
  have hx:l[i]'(by omega)∈(l.drop n).take (k-n):=by
   rw [List.mem_iff_getElem]
   refine ⟨i-n,by simp;omega,?_⟩
   simp [show n+(i-n)=i by omega]
  simp [bl,List.getD_eq_getElem?_getD,List.getElem?_eq_getElem (show i<l.length by omega),h _ hx]
 ·intro h x hx
  obtain ⟨i,hi,rfl⟩:=List.getElem_of_mem hx
  have hi':=hi
  simp at hi'
  have:=h (n+i) (by omega) (by omega)
  simp [bl,List.getD_eq_getElem?_getD,List.getElem?_eq_getElem (show n+i<l.length by omega)] at this
  simp
  exact UInt8.toNat_inj.1 this
def RetBB (t : TypeId) (w : World) (p : List UInt8 × List UInt8 × Int) (e : Ending) (w' : World) : Prop :=
 ∃ v u,e = .returned (.tuple #[v,u,.int .i64 p.2.2])/\OwnBs t w' w.heap.size v p.1/\OwnBs t w' w.heap.size u p.2.1/\Below w.heap.size w w'
theorem RetBB.err {t : TypeId} {w w' : World} {p : List UInt8 × List UInt8 × Int} {n : Int} (h : p = ([],[],n)) (hb : Below w.heap.size w w') : RetBB t w p (.returned (.tuple #[.slice none 0 0,.slice none 0 0,.int .i64 n])) w' := by
 rw [h]
 exact ⟨_,_,rfl,OwnBs.nil _ _ _,OwnBs.nil _ _ _,hb⟩
end Go.Creel
namespace Go.Proofs.YtaffgndickdbiaaGreatDoor
open Go.Creel Go.RowKit
theorem TrimZ_yes {s : ByteArray} (h : ∀ x ∈ s.data.toList,x = 0) (w : World) (hs : s.size ≤ maxLen) :
 Calls Tryz.prog 130 #[.string s,.string ⟨#[0]⟩] w fun e w'=>e = .returned (.string ⟨#[]⟩)/\Below w.heap.size w w':=by
 refine (Trim0_any s w hs).mono ?_
 rintro e w' ⟨rfl,hb⟩
 rw [trim_empty.2 h]
 exact ⟨rfl,hb⟩
theorem TrimZ_no {s : ByteArray} (h : ¬ ∀ x ∈ s.data.toList,x = 0) (w : World) (hs : s.size ≤ maxLen) :
 Calls Tryz.prog 130 #[.string s,.string ⟨#[0]⟩] w fun e w'=>Below w.heap.size w w'/\∃ t:ByteArray,e = .returned (.string t)/\t.toList.isEmpty=false:=by
 refine (Trim0_any s w hs).mono ?_
 rintro e w' ⟨rfl,hb⟩
 refine ⟨hb,_,rfl,empty_f ?_⟩
 rw [ofL_size]
 intro e
 exact h (trim_empty.1 (List.eq_nil_of_length_eq_zero e))
theorem slice_zero {N : Nat} (w : World) (a : Addr) (c : Nat) (hc : c ≤ maxLen) : SliceC N 1 ByteC w [.slice (some a) 0 c] [] :=
 ⟨some a,c,rfl,by simp,hc,by simp,(fun h=>by cases h),fun h=>absurd h (by simp)⟩
theorem _root_.Go.Creel.OwnBs.below {t : TypeId} {w w' : World} {B : Nat} {v : Value} {l : List UInt8} (h : OwnBs t w B v l) (hb : Below w.heap.size w w') : OwnBs t w' B v l := by
 rcases h.2 with ⟨rfl,h0⟩|⟨g,cap,cur,rfl,hbg,hg,hnc,hcm,hcs,htake⟩
 ·exact ⟨h.1,.inl ⟨rfl,h0⟩⟩
 ·have hlt:g<w.heap.size:=(Array.getElem?_eq_some_iff.1 hg).1
  exact ⟨h.1,.inr ⟨g,cap,cur,rfl,hbg,(hb.block g hlt).trans hg,hnc,hcm,hcs,htake⟩⟩
theorem _root_.Go.Creel.OwnBs.mono {t : TypeId} {w : World} {B B' : Nat} {v : Value} {l : List UInt8} (h : OwnBs t w B v l) (hb : B' ≤ B) : OwnBs t w B' v l := by
 rcases h.2 with ⟨rfl,h0⟩|⟨g,cap,cur,rfl,hbg,hg,hnc,hcm,hcs,htake⟩
 ·exact ⟨h.1,.inl ⟨rfl,h0⟩⟩
 ·exact ⟨h.1,.inr ⟨g,cap,cur,rfl,Nat.le_trans hb hbg,hg,hnc,hcm,hcs,htake⟩⟩
theorem _root_.Go.Creel.blk_ne {v v0 : Value} {b n : Nat} (h : v.ownBlock = v0.ownBlock ∨ ∃ g,v.ownBlock = some g ∧ n ≤ g) (h0 : v0.ownBlock ≠ some b) (hn : b < n) : v.ownBlock = none ∨ v.ownBlock ≠ some b := by
 rcases h with h|⟨g,h,hg⟩
 ·exact .inr (by rw [h];exact h0)
 ·exact .inr (by rw [h];intro e;cases e;omega)
theorem _root_.Go.Creel.own_lt {t : TypeId} {w : World} {B : Nat} {v : Value} {l : List UInt8} (h : OwnBs t w B v l) : v.ownBlock = none ∨ v.ownBlock ≠ some w.heap.size := by
 rcases h.form with ⟨rfl,_⟩|⟨g,cap,rfl,h⟩
 ·exact .inl rfl
 ·refine .inr ?_
  have:=(OwnB.lt h).2
  intro e
  simp [Value.ownBlock] at e
  omega
set_option maxRecDepth 100000 in
set_option maxHeartbeats 8000000 in
theorem PadCutL_bad (v : Value) (l : List UInt8) (n : Int) (w : World) (hn : i64 n) (h : n < 0 ∨ 8589934591 < n) :
 Calls Tryz.prog 118 #[v,.int .i64 n] w (RetBB 5 w (padCut l n)):=by
 have HK:=Lib.hid (fun (w:World)=>Blocks_any n w hn)
 have HP:=Lib.hid (show padBlocks n=(0,4) by unfold padBlocks;rw [if_neg (by omega)])
 have HF:=Lib.hid (show padCut l n=([],[],4) by unfold padCut;rw [if_pos h])
 clear h hn
 go_enter Tryz.func118,Tryz.ntmps118
 go_wp2_with (go_at_call 171;refine (HK.out _).mono ?_;rintro e w' ⟨rfl,rfl⟩;rw [HP.out])
 go_ret3
 exact RetBB.err HF.out (Below.refl _ _)
set_option maxRecDepth 100000 in
set_option maxHeartbeats 8000000 in
theorem PadCutL_some {N : Nat} (b off cap : Nat) (l : List UInt8) (m k : Nat) (w : World) (hn : m ≤ 8589934591) (hkk : (m + 511) / 512 = k) (hl : l.length ≤ 1048576) (hle : l.length ≤ cap) (hm : cap ≤ maxLen) (hN : l.length ≤ N) (hc : ∀ i,i < l.length → w.cell? ⟨b,off + i,none⟩ = some (.int .u8 (bl l i))) :
 Calls Tryz.prog 118 #[.slice (some ⟨b,off,none⟩) l.length cap,.int .i64 m] w (RetBB 5 w (padCut l m)):=by
 have HK:=Lib.hid (fun (w:World)=>Blocks_any m w (by unfold i64;omega))
 obtain ⟨i0,hi,hz0,hz1,hz2⟩:=info_parts info_byte2
 have HI:=Lib.hid (And.intro hi (And.intro hz0 (And.intro hz1 hz2)))
 clear hi hz0 hz1 hz2
 have HP:=Lib.hid (show padBlocks (m:Int)=(((k:Nat):Int),0) by unfold padBlocks;rw [if_pos (by omega),<-hkk];congr 1)
 have hk:m<=k*512:=by omega
 by_cases hs:l.length<k*512
 ·have HF:=Lib.hid (show padCut l (m:Int)=([],[],7) by unfold padCut;rw [if_neg (by omega),Int.toNat_natCast,hkk,if_pos hs])
  clear hc
  go_enter Tryz.func118,Tryz.ntmps118
  go_wp2_with (go_at_call 171;refine (HK.out _).mono ?_;rintro e w' ⟨rfl,rfl⟩;rw [HP.out])
  all_goals first|(exfalso;omega)|(go_ret3;exact RetBB.err HF.out (Below.refl _ _))
 ·have hzs:(ofL ((l.drop m).take (k*512-m))).size<=maxLen:=by rw [ofL_size];unfold maxLen;simp;omega
  have hs1:=slice_sub (N:=N) hle hm hN hc 0 m (by omega)
  rw [Nat.add_zero,List.drop_zero,Nat.sub_zero] at hs1
  have HS1:=Lib.hid hs1
  clear hs1
  have hmc:m<=cap:=by omega
  have hkl:k*512<=l.length:=by omega
  have hkc:k*512<=cap:=by omega
  have hk0:(0:Int)<=(k:Int)*512:=by omega
  have hki:(m:Int)<=(k:Int)*512:=by omega
  have hkt:((k:Int)*512).toNat=k*512:=by omega
  have hwr:IntKind.i64.wrap ((k:Int)*512)=(k:Int)*512:=by rw [IntKind.wrap_i64];omega
  by_cases hcm:cap=m
  ·have hcm':m=cap:=hcm.symm
   subst hcm'
   have hz:zeroB l m (k*512):=fun i h1 h2=>absurd h2 (by omega)
   have h1:l.length=m:=by omega
   have h2:k*512=m:=by omega
   have HS2:Hid (SliceC N 1 ByteC w [.slice (some ⟨b,off,none⟩) (l.length-k*512) 0] (l.drop (k*512))):=Lib.hid (by
    rw [show l.length-k*512=0 by omega,List.drop_of_length_le (by omega)];exact slice_zero _ _ _ (by decide))
   have hcv:(convert 24 9 (.slice (some ⟨b,off,none⟩) 0 0)).run Tryz.prog w = .ok (.string (ofL [])) w:=conv w (slice_zero (N:=N) _ _ _ (by decide))
   have HF:=Lib.hid (show padCut l (m:Int)=(l.take m,l.drop (k*512),0) by unfold padCut;rw [if_neg (by omega),Int.toNat_natCast,hkk,if_neg hs,if_pos hz])
   have HT:=Lib.hid (fun (w:World)=>TrimZ_yes (s:=ofL []) (by rw [ofL_data];intro x hx;cases hx) w (by decide))
   clear hz hzs hc
   unfold maxLen at hm
   go_enter Tryz.func118,Tryz.ntmps118
   go_wp2_with (first|(go_at_call 171;refine (HK.out _).mono ?_;rintro e w' ⟨rfl,rfl⟩;rw [HP.out])|(go_at_call 130;refine (HT.out _).mono ?_;rintro e w0 ⟨rfl,hb⟩;have HB0:=Lib.hid hb.drew;clear hb))
   go_region_law (first
    | (refine step_app w0.drew rfl (.const (.slice none 0 0)) (.tmp 32) 24 24 rfl (.slice none 0 0) (.slice (some ⟨b,off,none⟩) m m) (by simp [Act.eval,Act.put]) (by simp [Act.eval,Act.put]) (fun ty=>app_bytes (l:=[]) (B:=w.heap.size) w0.drew _ _ _ _ i0 Tryz.underlying24 Tryz.underlying24 HI.out.1 HI.out.2.1 HI.out.2.2.1 HI.out.2.2.2 (OwnBs.nil _ _ _) (HS1.out.below (fun _ _ h=>h) HB0.out) (by simp;omega) HB0.out.size ty) ?_;intro v1 w1 ho hg _;have HO:=Lib.hid (OwnBs.app (l:=[]) ho);have HB:=Lib.hid (below_app HB0.out hg (World.ownsRow_nil _ w.heap.size 5 1) HB0.out.size);clear ho hg)
    | (refine step_app w1 rfl (.const (.slice none 0 0)) (.tmp 37) 24 24 rfl (.slice none 0 0) (.slice (some ⟨b,off,none⟩) 0 0) (by simp [Act.eval,Act.put]) (by simp [Act.eval,Act.put]) (fun ty=>app_bytes (l:=[]) (B:=w1.heap.size) w1 _ _ _ _ i0 Tryz.underlying24 Tryz.underlying24 HI.out.1 HI.out.2.1 HI.out.2.2.1 HI.out.2.2.2 (OwnBs.nil _ _ _) (HS2.out.below (fun _ _ h=>h) HB.out) (by simp;omega) (Nat.le_refl _) ty) ?_;intro v2 w2 ho hg _;have HO2:=Lib.hid (OwnBs.app (l:=[]) ho);have HB2:=Lib.hid (below_app (Below.refl w1.heap.size w1) hg (World.ownsRow_nil _ w1.heap.size 5 1) (Nat.le_refl _));clear ho hg))
   go_wp2
   go_ret3
   rw [HF.out]
   have e:=HO.out
   simp only [List.nil_append] at e
   rw [show l.drop (k*512)=[] from List.drop_of_length_le (by omega)]
   exact ⟨_,_,rfl,e,OwnBs.nil _ _ _,HB.out⟩
  ·have HS:=Lib.hid (slice_sub (N:=N) hle hm hN hc m (k*512-m) (by omega))
   have hcv:=conv w HS.out
   by_cases hz:zeroB l m (k*512)
   ·by_cases hck:cap=k*512
    ·subst hck
     have HS2:Hid (SliceC N 1 ByteC w [.slice (some ⟨b,off,none⟩) 0 0] (l.drop (k*512))):=Lib.hid (by
      rw [List.drop_of_length_le (by omega)];exact slice_zero _ _ _ (by decide))
     have HF:=Lib.hid (show padCut l (m:Int)=(l.take m,l.drop (k*512),0) by unfold padCut;rw [if_neg (by omega),Int.toNat_natCast,hkk,if_neg hs,if_pos hz])
     have HT:=Lib.hid (fun (w:World)=>TrimZ_yes (s:=ofL ((l.drop m).take (k*512-m))) (by rw [ofL_data];exact (sub_zero (by omega)).2 hz) w hzs)
     clear hz hzs hc
     unfold maxLen at hm
     go_enter Tryz.func118,Tryz.ntmps118
     go_wp2_with (first|(go_at_call 171;refine (HK.out _).mono ?_;rintro e w' ⟨rfl,rfl⟩;rw [HP.out])|(go_at_call 130;refine (HT.out _).mono ?_;rintro e w0 ⟨rfl,hb⟩;have HB0:=Lib.hid hb.drew;clear hb))
     go_region_law (first
      | (refine step_app w0.drew rfl (.const (.slice none 0 0)) (.tmp 32) 24 24 rfl (.slice none 0 0) (.slice (some ⟨b,off,none⟩) m (k*512)) (by simp [Act.eval,Act.put]) (by simp [Act.eval,Act.put]) (fun ty=>app_bytes (l:=[]) (B:=w.heap.size) w0.drew _ _ _ _ i0 Tryz.underlying24 Tryz.underlying24 HI.out.1 HI.out.2.1 HI.out.2.2.1 HI.out.2.2.2 (OwnBs.nil _ _ _) (HS1.out.below (fun _ _ h=>h) HB0.out) (by simp;omega) HB0.out.size ty) ?_;intro v1 w1 ho hg _;have HO:=Lib.hid (OwnBs.app (l:=[]) ho);have HB:=Lib.hid (below_app HB0.out hg (World.ownsRow_nil _ w.heap.size 5 1) HB0.out.size);clear ho hg)
      | (refine step_app w1 rfl (.const (.slice none 0 0)) (.tmp 37) 24 24 rfl (.slice none 0 0) (.slice (some ⟨b,off,none⟩) 0 0) (by simp [Act.eval,Act.put]) (by simp [Act.eval,Act.put]) (fun ty=>app_bytes (l:=[]) (B:=w1.heap.size) w1 _ _ _ _ i0 Tryz.underlying24 Tryz.underlying24 HI.out.1 HI.out.2.1 HI.out.2.2.1 HI.out.2.2.2 (OwnBs.nil _ _ _) (HS2.out.below (fun _ _ h=>h) HB.out) (by simp;omega) (Nat.le_refl _) ty) ?_;intro v2 w2 ho hg _;have HO2:=Lib.hid (OwnBs.app (l:=[]) ho);have HB2:=Lib.hid (below_app (Below.refl w1.heap.size w1) hg (World.ownsRow_nil _ w1.heap.size 5 1) (Nat.le_refl _));clear ho hg))
     go_wp2
     go_ret3
     rw [HF.out]
     refine ⟨_,_,rfl,?_,?_,HB.out.trans (HB2.out.mono HB.out.size)⟩
     ·have e:=HO.out.below HB2.out
      simp only [List.nil_append] at e
      exact e
     ·have e:=OwnBs.mono HO2.out HB.out.size
      simp only [List.nil_append] at e
      exact e
    ·have hs2:=slice_sub (N:=N) hle hm hN hc (k*512) (l.length-k*512) (by omega)
     rw [List.take_of_length_le (by simp)] at hs2
     have HS2:=Lib.hid hs2
     clear hs2
     have HF:=Lib.hid (show padCut l (m:Int)=(l.take m,l.drop (k*512),0) by unfold padCut;rw [if_neg (by omega),Int.toNat_natCast,hkk,if_neg hs,if_pos hz])
     have HT:=Lib.hid (fun (w:World)=>TrimZ_yes (s:=ofL ((l.drop m).take (k*512-m))) (by rw [ofL_data];exact (sub_zero (by omega)).2 hz) w hzs)
     clear hz hzs hc
     unfold maxLen at hm
     go_enter Tryz.func118,Tryz.ntmps118
     go_wp2_with (first|(go_at_call 171;refine (HK.out _).mono ?_;rintro e w' ⟨rfl,rfl⟩;rw [HP.out])|(go_at_call 130;refine (HT.out _).mono ?_;rintro e w0 ⟨rfl,hb⟩;have HB0:=Lib.hid hb.drew;clear hb))
     go_region_law (first
      | (refine step_app w0.drew rfl (.const (.slice none 0 0)) (.tmp 32) 24 24 rfl (.slice none 0 0) (.slice (some ⟨b,off,none⟩) m cap) (by simp [Act.eval,Act.put]) (by simp [Act.eval,Act.put]) (fun ty=>app_bytes (l:=[]) (B:=w.heap.size) w0.drew _ _ _ _ i0 Tryz.underlying24 Tryz.underlying24 HI.out.1 HI.out.2.1 HI.out.2.2.1 HI.out.2.2.2 (OwnBs.nil _ _ _) (HS1.out.below (fun _ _ h=>h) HB0.out) (by simp;omega) HB0.out.size ty) ?_;intro v1 w1 ho hg _;have HO:=Lib.hid (OwnBs.app (l:=[]) ho);have HB:=Lib.hid (below_app HB0.out hg (World.ownsRow_nil _ w.heap.size 5 1) HB0.out.size);clear ho hg)
      | (refine step_app w1 rfl (.const (.slice none 0 0)) (.tmp 37) 24 24 rfl (.slice none 0 0) (.slice (some ⟨b,off+k*512,none⟩) (l.length-k*512) (cap-k*512)) (by simp [Act.eval,Act.put]) (by simp [Act.eval,Act.put]) (fun ty=>app_bytes (l:=[]) (B:=w1.heap.size) w1 _ _ _ _ i0 Tryz.underlying24 Tryz.underlying24 HI.out.1 HI.out.2.1 HI.out.2.2.1 HI.out.2.2.2 (OwnBs.nil _ _ _) (HS2.out.below (fun _ _ h=>h) HB.out) (by simp;omega) (Nat.le_refl _) ty) ?_;intro v2 w2 ho hg _;have HO2:=Lib.hid (OwnBs.app (l:=[]) ho);have HB2:=Lib.hid (below_app (Below.refl w1.heap.size w1) hg (World.ownsRow_nil _ w1.heap.size 5 1) (Nat.le_refl _));clear ho hg))
     go_wp2
     go_ret3
     rw [HF.out]
     refine ⟨_,_,rfl,?_,?_,HB.out.trans (HB2.out.mono HB.out.size)⟩
     ·have e:=HO.out.below HB2.out
      simp only [List.nil_append] at e
      exact e
     ·have e:=OwnBs.mono HO2.out HB.out.size
      simp only [List.nil_append] at e
      exact e
   ·unfold maxLen at hm
    have HF:=Lib.hid (show padCut l (m:Int)=([],[],3) by unfold padCut;rw [if_neg (by omega),Int.toNat_natCast,hkk,if_neg hs,if_neg hz])
    have HT:=Lib.hid (fun (w:World)=>TrimZ_no (s:=ofL ((l.drop m).take (k*512-m))) (by rw [ofL_data];exact fun e=>hz ((sub_zero (by omega)).1 e)) w hzs)
    clear hz hzs hc
    go_enter Tryz.func118,Tryz.ntmps118
    go_wp2_with (first|(go_at_call 171;refine (HK.out _).mono ?_;rintro e w' ⟨rfl,rfl⟩;rw [HP.out])|(go_at_call 130;refine (HT.out _).mono ?_;rintro e w0 ⟨hb,t,rfl,ht⟩;have HB0:=Lib.hid hb;clear hb))
    go_ret3
    exact RetBB.err HF.out HB0.out
set_option maxRecDepth 100000 in
set_option maxHeartbeats 8000000 in
theorem PadCutL_nil (a : Option Addr) (cap : Nat) (m k : Nat) (w : World) (hn : m ≤ 8589934591) (hkk : (m + 511) / 512 = k) (ha : a = none → cap = 0) (hm : cap ≤ maxLen) :
 Calls Tryz.prog 118 #[.slice a 0 cap,.int .i64 m] w (RetBB 5 w (padCut [] m)):=by
 have HK:=Lib.hid (fun (w:World)=>Blocks_any m w (by unfold i64;omega))
 have HP:=Lib.hid (show padBlocks (m:Int)=(((k:Nat):Int),0) by unfold padBlocks;rw [if_pos (by omega),<-hkk];congr 1)
 by_cases hs:0<k
 ·have HF:=Lib.hid (show padCut [] (m:Int)=([],[],7) by unfold padCut;rw [if_neg (by omega),Int.toNat_natCast,hkk,if_pos (by simp;omega)])
  go_enter Tryz.func118,Tryz.ntmps118
  go_wp2_with (go_at_call 171;refine (HK.out _).mono ?_;rintro e w' ⟨rfl,rfl⟩;rw [HP.out])
  all_goals first|(exfalso;omega)|(go_ret3;exact RetBB.err HF.out (Below.refl _ _))
 ·obtain rfl:m=0:=by omega
  obtain rfl:k=0:=by omega
  have HF:=Lib.hid (show padCut [] ((0:Nat):Int)=([],[],0) by unfold padCut zeroB;simp)
  have HT:=Lib.hid (fun (w:World)=>TrimZ_yes (s:=ofL []) (by rw [ofL_data];intro x hx;cases hx) w (by decide))
  cases a with
  | none =>
    obtain rfl:=ha rfl
    have hcv:=conv w (show SliceC maxLen 1 ByteC w [.slice none 0 0] [] from ⟨none,0,rfl,by simp,by simp,by simp,fun _=>rfl,fun h=>absurd h (by simp)⟩)
    go_enter Tryz.func118,Tryz.ntmps118
    go_wp2_with (first|(go_at_call 171;refine (HK.out _).mono ?_;rintro e w' ⟨rfl,rfl⟩;rw [HP.out])|(go_at_call 130;refine (HT.out _).mono ?_;rintro e w0 ⟨rfl,hb⟩;have HB0:=Lib.hid hb.drew;clear hb))
    go_region
    all_goals
     go_wp2
     go_ret3
     rw [HF.out]
     exact ⟨_,_,rfl,OwnBs.nil _ _ _,OwnBs.nil _ _ _,HB0.out⟩
  | some a =>
    have hcv:=conv w (slice_zero (N:=maxLen) w a cap hm)
    have hcv2:=conv w (slice_zero (N:=maxLen) w a 0 (by decide))
    have hl0:∀ w:World,(loadCellsFrom a 0 0 #[]).run Tryz.prog w = .ok #[] w:=fun _=>rfl
    go_enter Tryz.func118,Tryz.ntmps118
    go_wp2_with (first|(go_at_call 171;refine (HK.out _).mono ?_;rintro e w' ⟨rfl,rfl⟩;rw [HP.out])|(go_at_call 130;refine (HT.out _).mono ?_;rintro e w0 ⟨rfl,hb⟩;have HB0:=Lib.hid hb.drew;clear hb))
    trace_state
    all_goals
     go_region
     all_goals
     go_wp2
     go_ret3
     rw [HF.out]
     exact ⟨_,_,rfl,OwnBs.nil _ _ _,OwnBs.nil _ _ _,HB0.out⟩
theorem PadCutL_any {N : Nat} (v : Value) (l : List UInt8) (n : Int) (w : World) (hn : i64 n) (h : SliceC N 1 ByteC w [v] l) (hl : l.length ≤ 1048576) :
 Calls Tryz.prog 118 #[v,.int .i64 n] w (RetBB 5 w (padCut l n)):=by
 by_cases hb:n<0\/8589934591<n
 ·exact PadCutL_bad v l n w hn hb
 ·obtain ⟨m,rfl⟩:∃ m:Nat,n=m:=⟨n.toNat,by omega⟩
  obtain ⟨a,cap,hv,h1,h2,h3,h4,h5⟩:=h
  simp only [List.cons.injEq,and_true] at hv
  subst hv
  by_cases hp:0<l.length
  ·rcases bytes_cases (N:=N) (w:=w) (v := .slice a l.length cap) (l:=l) ⟨a,cap,rfl,h1,h2,h3,h4,h5⟩ with ⟨_,_,_,e⟩|⟨b,off,c2,e,_,_,_,_,hc⟩
   ·rw [e] at hp;simp at hp
   ·simp only [Value.slice.injEq] at e
    obtain ⟨rfl,_,rfl⟩:=e
    exact PadCutL_some b off cap l m _ w (by omega) rfl hl h1 h2 h3 hc
  ·have e:l=[]:=List.eq_nil_of_length_eq_zero (by omega)
   subst e
   exact PadCutL_nil a cap m _ w (by omega) rfl h4 h2
end Go.Proofs.YtaffgndickdbiaaGreatDoor
