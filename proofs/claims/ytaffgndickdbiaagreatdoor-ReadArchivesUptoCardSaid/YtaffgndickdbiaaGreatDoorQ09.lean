/-
  Texts: PadFill, MemBSpec, Trim, FieldRead.
-/
import Derived.Test.YtaffgndickdbiaaGreatDoorQ08
import Derived.Lib.ItoaLen
set_option linter.unusedVariables false
set_option linter.unusedSimpArgs false
set_option linter.unusedSectionVars false
namespace Go.Creel
open Go.RowKit
def padBlocks (n : Int) : Int × Int := if 0 ≤ n ∧ n ≤ 8589934591 then ((n + 511) / 512,0) else (0,4)
def padLack (n : Nat) : Nat := (512 - n % 512) % 512
def padFill (l : List UInt8) : List UInt8 := l ++ List.replicate (padLack l.length) 0
def RetBs (t : TypeId) (w : World) (l : List UInt8) (e : Ending) (w' : World) : Prop := ∃ v,e = .returned v ∧ OwnBs t w' w.heap.size v l ∧ Below w.heap.size w w'
def vlen : Value → Nat | .slice _ n _ => n | _ => 0
theorem padLack_zero {n m : Nat} (h : (n + m) % 512 = 0) (hm : m ≤ padLack n) : m = padLack n := by unfold padLack at *; omega
theorem padLack_lt {n m : Nat} (h : (n + m) % 512 ≠ 0) (hm : m ≤ padLack n) : m < padLack n := by unfold padLack at *; omega
theorem padLack_lt512 (n : Nat) : padLack n < 512 := by unfold padLack; omega
theorem rep_snoc (l : List UInt8) (m : Nat) : l ++ List.replicate m 0 ++ [0] = l ++ List.replicate (m + 1) 0 := by rw [List.append_assoc,List.replicate_succ']
end Go.Creel
namespace Go.Proofs.YtaffgndickdbiaaGreatDoor
open Go.Creel Go.RowKit
set_option maxRecDepth 100000 in
theorem Blocks_any (n : Int) (w : World) (hn : i64 n) :
 Calls Tryz.prog 171 #[.int .i64 n] w fun e w'=>e = .returned (.tuple #[.int .i64 (padBlocks n).1,.int .i64 (padBlocks n).2])/\w=w':=by
 unfold i64 at hn
 by_cases h:0<=n/\n<=8589934591
 ·have HF:=Lib.hid (show padBlocks n=((n+511) / 512,0) by unfold padBlocks;rw [if_pos h])
  obtain ⟨h1,h2⟩:=h
  go_enter Tryz.func171,Tryz.ntmps171
  go_wp2
  go_ret2
  exact ⟨ret_ii (by rw [HF.out];congr 2;omega),rfl⟩
 ·have HF:=Lib.hid (show padBlocks n=(0,4) by unfold padBlocks;rw [if_neg h])
  have HN:=Lib.hid h
  clear h
  go_enter Tryz.func171,Tryz.ntmps171
  go_wp2
  all_goals first
   | (exfalso;have:=HN.out;omega)
   | (go_ret2;exact ⟨ret_ii HF.out,rfl⟩)
set_option maxRecDepth 100000 in
theorem PadBlocks_any (n : Int) (w : World) (hn : i64 n) :
 Calls Tryz.prog 182 #[.int .i64 n] w fun e w'=>e = .returned (.tuple #[.int .i64 (padBlocks n).1,.int .i64 (padBlocks n).2])/\w=w':=by
 unfold i64 at hn
 by_cases h:0<=n/\n<=8589934591
 ·have HF:=Lib.hid (show padBlocks n=((n+511) / 512,0) by unfold padBlocks;rw [if_pos h])
  obtain ⟨h1,h2⟩:=h
  go_enter Tryz.func182,Tryz.ntmps182
  go_wp2
  all_goals (go_ret2;exact ⟨ret_ii (by rw [HF.out];congr 1;omega),rfl⟩)
 ·have HF:=Lib.hid (show padBlocks n=(0,4) by unfold padBlocks;rw [if_neg h])
  have HN:=Lib.hid h
  clear h
  go_enter Tryz.func182,Tryz.ntmps182
  go_wp2
  all_goals first
   | (exfalso;have:=HN.out;omega)
   | (go_ret2;exact ⟨ret_ii HF.out,rfl⟩)
theorem info_byte2 : (Tryz.prog.info? 5).map (fun i => (i.zero,i.size,i.bytes)) = some (some (.int .u8 0),1,1) := by kernel_rfl
set_option maxRecDepth 100000 in
set_option maxHeartbeats 400000 in
theorem Fill_any {N : Nat} (v : Value) (l : List UInt8) (w : World) (h : SliceC N 1 ByteC w [v] l) (hl : l.length ≤ 140737488354000) :
 Calls Tryz.prog 40 #[v] w (RetBs 5 w (padFill l)):=by
 obtain ⟨i0,hi,hz0,hz1,hz2⟩:=info_parts info_byte2
 have H:=Lib.hid h
 have hlk:=padLack_lt512 l.length
 have HI:=Lib.hid (And.intro hi (And.intro hz0 (And.intro hz1 hz2)))
 obtain ⟨a,cap,hv⟩:∃ a cap,v = .slice a l.length cap:=by
  obtain ⟨a,cap,hv,_⟩:=h
  exact ⟨a,cap,by simpa using hv⟩
 subst hv
 have HL:=Lib.hid (show (-((l.length:Int) % 512)) % 512=(padLack l.length:Int) by unfold padLack;omega)
 clear h hi hz0 hz1 hz2
 go_enter Tryz.func40,Tryz.ntmps40
 go_wp2_with (first
  | (at_builtin;refine wpList_app _ rfl (.const (.slice none 0 0)) (.tmp 9) 24 24 rfl _ _ rfl rfl (fun ty=>app_bytes (l:=[]) (B:=w.heap.size) _ _ _ _ _ i0 Tryz.underlying24 Tryz.underlying24 HI.out.1 HI.out.2.1 HI.out.2.2.1 HI.out.2.2.2 (OwnBs.nil _ _ _) H.out (by simp;omega) (Nat.le_refl _) ty) ?_;intro v1 w1 ho hg _;have HO:=Lib.hid (OwnBs.app (l:=[]) ho);have HB:=Lib.hid (below_app (Below.refl w.heap.size w) hg (World.ownsRow_nil w w.heap.size 5 1) (Nat.le_refl _));clear ho hg)
  | (at_builtin;refine wpList_app _ rfl (.tmp 10) (.tmp 11) 24 3 rfl _ (.int .i64 (padLack l.length)) rfl (congrArg (Value.int .i64) HL.out) (fun ty=>app_bytes_zeros (B:=w.heap.size) _ _ _ _ i0 Tryz.underlying24 Tryz.underlying3 HI.out.1 HI.out.2.1 HI.out.2.2.1 HI.out.2.2.2 (padLack l.length) HO.out (by simp;omega) HB.out.size ty) ?_;intro v2 w2 ho hg _;have HO2:=Lib.hid (OwnBs.appz ho);have HB2:=Lib.hid (below_app HB.out hg HO.out HB.out.size);clear ho hg))
 go_ret
 refine ⟨_,rfl,?_,HB2.out⟩
 have e:=HO2.out
 simp only [List.nil_append] at e
 exact e
set_option maxRecDepth 100000 in
set_option maxHeartbeats 800000 in
theorem PadFill_any {N : Nat} (v : Value) (l : List UInt8) (w : World) (h : SliceC N 1 ByteC w [v] l) (hl : l.length ≤ 140737488354000) :
 Calls Tryz.prog 44 #[v] w (RetBs 5 w (padFill l)):=by
 obtain ⟨i0,hi,hz0,hz1,hz2⟩:=info_parts info_byte2
 have HI:=Lib.hid (And.intro hi (And.intro hz0 (And.intro hz1 hz2)))
 have hlk:=padLack_lt512 l.length
 have h0:OwnBs 5 (w.alloc (.cells #[] 5)) w.heap.size (.slice (some ⟨w.heap.size,0,none⟩) 0 0) []:=World.ownsRow_made w #[] 0 (Nat.le_refl _) (by simp) rfl
 have H0:=Lib.hid h0
 have hb0:=(Below.refl w.heap.size w).alloc (Nat.le_refl _) (.cells #[] 5)
 have H:=Lib.hid (h.below (w':=w.alloc (.cells #[] 5)) (fun _ _ h=>h) hb0)
 have HB0:=Lib.hid hb0
 have hsz0:w.heap.size<=(w.alloc (.cells #[] 5)).heap.size:=hb0.size
 have HS0:=Lib.hid hsz0
 clear h h0 hb0 hsz0 hi hz0 hz1 hz2
 go_enter Tryz.func44,Tryz.ntmps44
 go_wp2_with (at_builtin;refine wpList_app _ rfl (.tmp 4) (.tmp 5) 24 24 rfl _ _ rfl rfl (fun ty=>app_bytes (l:=[]) (B:=w.heap.size) _ _ _ _ _ i0 Tryz.underlying24 Tryz.underlying24 HI.out.1 HI.out.2.1 HI.out.2.2.1 HI.out.2.2.2 H0.out H.out (by simp;omega) HS0.out ty) ?_;intro v1 w1 ho hg _;have HO:=Lib.hid (OwnBs.app (l:=[]) ho);have HB:=Lib.hid (below_app HB0.out hg H0.out HS0.out);clear ho hg)
 go_loopw [3] (fun v wr=>∃ m:Nat,m<=padLack l.length/\OwnBs 5 wr w.heap.size v (l++List.replicate m 0)/\Below w.heap.size w wr) (fun v _=>512-(vlen v+511) % 512)
 case atStart=>exact ⟨0,by omega,by have:=HO.out;simpa using this,HB.out⟩
 case round =>
  obtain ⟨m,hm,ho,hb⟩:=hrel
  have HO:=Lib.hid ho
  have HBR:=Lib.hid hb
  have hlen:(l++List.replicate m (0:UInt8)).length=l.length+m:=by simp
  obtain ⟨a,cap,hv⟩:∃ a cap,u3 = .slice a (l.length+m) cap:=by
   rcases ho.form with ⟨e1,e2⟩|⟨g,cap,e1,_⟩
   ·have:=congrArg List.length e2
    rw [hlen] at this
    simp at this
    exact ⟨none,0,by rw [e1];simp [this]⟩
   ·exact ⟨_,_,by rw [e1,hlen]⟩
  subst hv
  have HL:=Lib.hid hlen
  have hbsz:=hb.size
  clear ho hb hlen
  by_cases he:(l.length+m) % 512=0
  ·have HM:=Lib.hid (padLack_zero he hm)
   have hq:((((l.length+m:Nat):Int) % 512) != 0)=false:=by rw [bne_eq_false_iff_eq];omega
   clear he
   go_wp2
   go_ret
   refine ⟨_,rfl,?_,HBR.out⟩
   have e:padFill l=l++List.replicate m 0:=by rw [HM.out];rfl
   rw [e]
   exact HO.out
  ·have HM:=Lib.hid (padLack_lt he hm)
   have hq:((((l.length+m:Nat):Int) % 512) != 0)=true:=by rw [bne_iff_ne];omega
   have HE:=Lib.hid he
   have hb1:=(Below.refl wr.heap.size wr).alloc (Nat.le_refl _) (.cells #[.int .u8 0] 5)
   have HO1:=Lib.hid (World.ownsRow.alloc HO.out (.cells #[.int .u8 0] 5))
   have HSZ:=Lib.hid (show w.heap.size<=(wr.alloc (.cells #[.int .u8 0] 5)).heap.size from Nat.le_trans hbsz hb1.size)
   have HB1:=Lib.hid (HBR.out.alloc hbsz (.cells #[.int .u8 0] 5))
   clear he hb1
   go_wp2_with (at_builtin;refine wpList_app _ rfl (.tmp 11) (.tmp 12) 24 24 rfl _ _ rfl rfl (n:=(l++List.replicate m (0:UInt8)).length) (fun ty=>app_src _ _ _ _ w.heap.size 5 i0 (.int .u8 0) 1 1 Tryz.underlying24 HI.out.1 HI.out.2.1 HI.out.2.2.1 HI.out.2.2.2 rfl (by decide) _ _ _ _ _ _ HO1.out (src_one wr _ _ _ Tryz.underlying24 _ rfl) (by rw [HL.out];unfold maxLen;omega) (by rw [HL.out];omega) HSZ.out) ?_;intro v1 w1 ho hg _)
   have HO2:=Lib.hid (OwnBs.app (m:=[0]) ho)
   have HB2:=Lib.hid (below_app HB1.out hg HO1.out HSZ.out)
   clear ho hg
   go_wp2
   go_roundw
   case rel=>exact ⟨m+1,by have:=HM.out;omega,by rw [<-rep_snoc];exact HO2.out,HB2.out⟩
   case measure =>
    have h1:vlen v1=l.length+m+1:=by
     rcases HO2.out.form with ⟨_,e2⟩|⟨g,c,e1,_⟩
     ·simp at e2
     ·rw [e1];simp [vlen];omega
    have h2:=HM.out
    have h3:=HE.out
    show 512-(vlen v1+511) % 512<512-(l.length+m+511) % 512
    rw [h1];omega
end Go.Proofs.YtaffgndickdbiaaGreatDoor
namespace Go.Creel
open Go.RowKit
def paxHead (n : Nat) : HeadN := ⟨⟨#[64,112,97,120]⟩,⟨#[]⟩,⟨#[]⟩,0,0,0,n,0,120,⟨#[]⟩,⟨#[]⟩⟩
def memPre (l : List Rec) : List UInt8 := if l.length = 0 then [] else (headText (paxHead (paxWrite l).1.size)).1.data.toList ++ padFill (paxWrite l).1.data.toList
def memOwn (h : HeadN) (d : List UInt8) : List UInt8 := (headText h).1.data.toList ++ padFill d
noncomputable def memB (x : Ent) : List UInt8 := memPre (memRecs x) ++ memOwn (memHead x) x.data
noncomputable def memBytes (x : Ent) : List UInt8 × Int := if entFault x = 0 then (memB x,0) else ([],entFault x)
theorem memBytes_ok {x : Ent} (h : entFault x = 0) : memBytes x = (memB x,0) := if_pos h
theorem memBytes_bad {x : Ent} (h : ¬ entFault x = 0) : memBytes x = ([],entFault x) := if_neg h
theorem memPre_no {l : List Rec} (h : l.length = 0) : memPre l = [] := if_pos h
theorem memPre_yes {l : List Rec} (h : ¬ l.length = 0) : memPre l = (headText (paxHead (paxWrite l).1.size)).1.data.toList ++ padFill (paxWrite l).1.data.toList := if_neg h
theorem headText_le (n : HeadN) : (headText n).1.size ≤ 2000 := by
 unfold headText
 split
 ·simp
 ·split
  ·simp
  ·rename_i h
   have h0:(headRef n).2=0:=by simpa using h
   have h1:=head_size n h0
   have h2:=octText_le (headSum (headRef n).1).1 7
   simp only [sumIn,ByteArray.size_append,ByteArray.size_extract,ofL_size,List.length_cons,List.length_nil]
   omega
theorem paxWrite_le (l : List Rec) : (paxWrite l).1.size ≤ 6792 := by
 by_cases h:paxFault l=0
 ·rw [paxWrite_ok h]
  have:=(paxBytes_part h l.length).1
  rw [List.take_length] at this
  simp only [ofL_size];exact this
 ·rw [paxWrite_bad h];simp
theorem padFill_le (l : List UInt8) : (padFill l).length ≤ l.length + 512 := by
 unfold padFill
 have:=padLack_lt512 l.length
 simp;omega
theorem toL_len (s : ByteArray) : s.data.toList.length = s.size := by simp
theorem memPre_le (l : List Rec) : (memPre l).length ≤ 20000 := by
 unfold memPre
 split
 ·simp
 ·have h1:=headText_le (paxHead (paxWrite l).1.size)
  have h2:=paxWrite_le l
  have h3:=padFill_le (paxWrite l).1.data.toList
  rw [toL_len] at h3
  rw [List.length_append,toL_len];omega
theorem memOwn_le (h : HeadN) (d : List UInt8) : (memOwn h d).length ≤ 2600 + d.length := by
 unfold memOwn
 have h1:=headText_le h
 have h3:=padFill_le d
 rw [List.length_append,toL_len];omega
theorem cutTwo_le (s : ByteArray) : (cutTwo s).1.size ≤ s.size ∧ (cutTwo s).2.1.size ≤ s.size := by
 unfold cutTwo
 split
 ·simp
 ·unfold cutRest
  split
  ·simp
  ·split
   ·simp only [ByteArray.size_extract];omega
   ·simp
theorem timeText_le (m : Meta) : (timeText m.second m.nano).1.size ≤ 100 := by
 unfold timeText
 split
 ·simp
 ·rename_i h
  have hf:timeFault m.second m.nano=0:=by simpa using h
  obtain ⟨h1,h2,h3,h4⟩:=timeFault_ok hf
  have hs:(timeSign m.second).size<=1:=by unfold timeSign;split<;>simp [ofL_size]
  have ht:=Lib.itoa_length_le (timeS m.second m.nano) (by unfold timeS;split<;>(try split)<;>omega) (by unfold timeS;split<;>(try split)<;>omega)
  have hh:(timeHead m.second m.nano).size<=30:=by
   unfold timeHead
   rw [ByteArray.size_append,ofL_size];omega
  split
  ·simp only;omega
  ·have hd:(Lib.trimRightB (digs9 (timeN m.second m.nano).toNat 9) 48).length<=9:=by
    unfold Lib.trimRightB
    rw [List.length_reverse]
    refine Nat.le_trans (List.IsSuffix.length_le (List.dropWhile_suffix _)) ?_
    rw [List.length_reverse,digs9_len]
    exact Nat.le_refl _
   simp only [ByteArray.size_append,ofL_size,List.length_cons,List.length_nil]
   omega
theorem memRecs_small {x : Ent} (hR : EntRight x) : ∀ r ∈ memRecs x,r.key.size ≤ maxLen ∧ r.value.size ≤ maxLen := by
 have hi:∀ n:Int,0<=n/\n<=1125899906842624->(itoaB n).size<=21:=fun n hn=>by
  unfold itoaB;rw [ofL_size];exact Lib.itoa_length_le n (by omega) (by omega)
 have h1:=hi _ hR.mt.gid
 have h2:=hi _ hR.mt.uid
 have h3:=hR.mt.user
 have h4:=hR.mt.group
 have h5:=hR.target
 have h6:=hR.pathSize
 have h7:=timeText_le x.mt
 have hk:kGid.size<=10/\kGname.size<=10/\kLink.size<=10/\kMtime.size<=10/\kPath.size<=10/\kUid.size<=10/\kUname.size<=10:=by decide
 intro r hr
 unfold memRecs recNum recText1 recTime recPath at hr
 simp only [List.mem_append] at hr
 unfold maxLen
 rcases hr with (((((hr|hr)|hr)|hr)|hr)|hr)|hr<;>split at hr<;>simp only [List.mem_singleton,List.not_mem_nil] at hr<;>(try (subst hr;simp only;omega))
theorem memHead_small {x : Ent} (hR : EntRight x) : (memHead x).Ok maxLen := by
 have h1:=hR.mt.uid
 have h2:=hR.mt.gid
 have h3:=hR.mt.user
 have h4:=hR.mt.group
 have h5:=hR.target
 have h6:=hR.pathSize
 have h7:=hR.mt.mode
 have h8:=hR.data
 have h9:=hR.mt.second
 obtain ⟨c1,c2⟩:=cutTwo_le x.path
 have hl:sLong.size=5:=by rfl
 have e0:ByteArray.empty.size=0:=rfl
 unfold memHead hidPath hidText hidNum hidTime
 unfold maxLen
 constructor<;>simp only<;>(try split)<;>first|omega|(unfold i64;omega)
def ltrimL (c : UInt8) (l : List UInt8) : List UInt8 := l.dropWhile (· == c)
def rtrimL (c : UInt8) (l : List UInt8) : List UInt8 := (l.reverse.dropWhile (· == c)).reverse
theorem byt_zero_cons {t : ByteArray} (h : 0 < t.size) : ∃ x l,t.data.toList = x :: l ∧ byt t 0 = x.toNat := by
 cases hl:t.data.toList with
 | nil =>
   have:t.size=0:=by rw [Lib.size_eq t,hl];rfl
   omega
 | cons x l=>exact ⟨x,l,rfl,by simp [byt,hl]⟩
theorem byt_last_snoc {t : ByteArray} (h : 0 < t.size) : ∃ l x,t.data.toList = l ++ [x] ∧ byt t (t.size - 1) = x.toNat := by
 have hs:t.size=t.data.toList.length:=Lib.size_eq t
 rcases List.eq_nil_or_concat t.data.toList with e|⟨l,x,e⟩
 ·have h0:t.size=0:=by rw [hs,e];rfl
  omega
 ·rw [List.concat_eq_append] at e
  refine ⟨l,x,e,?_⟩
  have hl:t.size=l.length+1:=by rw [hs,e];simp
  unfold byt
  rw [e,hl]
  simp
theorem ltrim_step {c : UInt8} {t : ByteArray} (h : 0 < t.size) (hc : byt t 0 = c.toNat) : ltrimL c (t.extract 1 t.size).data.toList = ltrimL c t.data.toList := by
 obtain ⟨x,l,hl,hx⟩:=byt_zero_cons h
 have e:x=c:=UInt8.toNat_inj.1 (by omega)
 have h2:(t.extract 1 t.size).data.toList=l:=by
  have hs:t.size=l.length+1:=by rw [Lib.size_eq t,hl];simp
  rw [Lib.extract_data,hl,hs]
  simp
 rw [h2,hl,e]
 simp [ltrimL]
theorem ltrim_stop {c : UInt8} {t : ByteArray} (h : t.size = 0 ∨ byt t 0 ≠ c.toNat) : ltrimL c t.data.toList = t.data.toList := by
 by_cases h0:t.size=0
 ·have:t.data.toList=[]:=List.eq_nil_of_length_eq_zero ((Lib.size_eq t).symm.trans h0)
  rw [this];rfl
 ·obtain ⟨x,l,hl,hx⟩:=byt_zero_cons (Nat.pos_of_ne_zero h0)
  have hne:x≠c:=fun e=>by rcases h with h|h;exact h0 h;exact h (by rw [hx,e])
  rw [hl]
  simp [ltrimL,hne]
theorem extract_init (t : ByteArray) {l : List UInt8} {x : UInt8} (hl : t.data.toList = l ++ [x]) : (t.extract 0 (t.size - 1)).data.toList = l := by
 have hs:t.size=l.length+1:=by rw [Lib.size_eq t,hl];simp
 rw [Lib.extract_data,hl,hs]
 simp
theorem rtrim_step {c : UInt8} {t : ByteArray} (h : 0 < t.size) (hc : byt t (t.size - 1) = c.toNat) : rtrimL c (t.extract 0 (t.size - 1)).data.toList = rtrimL c t.data.toList := by
 obtain ⟨l,x,hl,hx⟩:=byt_last_snoc h
 have e:x=c:=UInt8.toNat_inj.1 (by omega)
 rw [extract_init t hl,hl,e]
 simp [rtrimL]
theorem rtrim_stop {c : UInt8} {t : ByteArray} (h : t.size = 0 ∨ byt t (t.size - 1) ≠ c.toNat) : rtrimL c t.data.toList = t.data.toList := by
 by_cases h0:t.size=0
 ·have:t.data.toList=[]:=List.eq_nil_of_length_eq_zero ((Lib.size_eq t).symm.trans h0)
  rw [this];rfl
 ·obtain ⟨l,x,hl,hx⟩:=byt_last_snoc (Nat.pos_of_ne_zero h0)
  have hne:x≠c:=fun e=>by rcases h with h|h;exact h0 h;exact h (by rw [hx,e])
  rw [hl]
  simp [rtrimL,hne]
theorem dropWhile_all {c : UInt8} : ∀ {l : List UInt8},l.dropWhile (· == c) = [] ↔ ∀ x ∈ l,x = c
 | []=>by simp
 | a::l=>by
   by_cases h:a=c
   ·subst h
    simp only [List.dropWhile_cons,beq_self_eq_true,if_true]
    rw [dropWhile_all]
    simp
   ·simp [h]
theorem trim_empty {c : UInt8} {l : List UInt8} : ltrimL c (rtrimL c l) = [] ↔ ∀ x ∈ l,x = c := by
 constructor
 ·intro h
  have h1:=dropWhile_all.1 h
  have h2:l.reverse.dropWhile (· == c)=[]:=by
   cases hd:l.reverse.dropWhile (· == c) with
   | nil=>rfl
   | cons a r =>
     exfalso
     have ha:a∈rtrimL c l:=by simp [rtrimL,hd]
     have hac:=h1 a ha
     have hh:=List.head?_dropWhile_not (p:=(· == c)) (l:=l.reverse)
     rw [hd] at hh
     simp at hh
     exact hh hac
  intro x hx
  exact dropWhile_all.1 h2 x (by simpa using hx)
 ·intro h
  have h2:rtrimL c l=[]:=by
   unfold rtrimL
   rw [dropWhile_all.2 (fun x hx=>h x (by simpa using hx))]
   rfl
  rw [h2];rfl
theorem rtrim_length (c : UInt8) (l : List UInt8) : (rtrimL c l).length ≤ l.length := by
 unfold rtrimL
 have:=(List.dropWhile_sublist (p:=(· == c)) (l:=l.reverse)).length_le
 simpa using this
end Go.Creel
namespace Go.Proofs.YtaffgndickdbiaaGreatDoor
open Go.Creel Go.RowKit
set_option maxRecDepth 100000 in
theorem trimLeftByte_any (s : ByteArray) (c : UInt8) (n : Int) (hn : n = c.toNat) (w : World) (hs : s.size ≤ maxLen) :
 Calls Tryz.prog 189 #[.string s,.int .u8 n] w fun e w'=>e = .returned (.string (ofL (ltrimL c s.data.toList)))/\w=w':=by
 unfold maxLen at hs
 have HN:=Lib.hid hn
 clear hn
 go_enter Tryz.func189,Tryz.ntmps189
 go_wp2
 go_loop [0] (fun v=>∃ t:ByteArray,v = .string t/\t.size<=s.size/\Hid (ltrimL c t.data.toList=ltrimL c s.data.toList)) (fun v=>slen v)
 case atStart=>exact ⟨s,rfl,Nat.le_refl _,rfl⟩
 case round =>
  obtain ⟨t,rfl,ht,HT⟩:=hrel
  by_cases h0:0<t.size
  ·have HB:=Lib.hid (byt_get t 0 h0)
   have hb':t[0].toNat<256:=UInt8.toNat_lt _
   by_cases hc:byt t 0=c.toNat
   ·have hq:(((t[0].toNat:Nat):Int)==n)=true:=by rw [HN.out,HB.out,hc];simp
    have HS:=Lib.hid (ltrim_step h0 hc)
    clear hc
    go_wp2
    go_round
    case rel=>exact ⟨_,rfl,by simp;omega,HS.out.trans HT.out⟩
    case measure=>simp [slen];omega
   ·have hq:(((t[0].toNat:Nat):Int)==n)=false:=by rw [HN.out,HB.out,beq_eq_false_iff_ne];omega
    have HS:=Lib.hid (ltrim_stop (c:=c) (t:=t) (.inr hc))
    clear hc
    go_wp2
    go_ret
    exact ⟨ret_s (by rw [<-HT.out,HS.out,ofL_of]),rfl⟩
  ·have HS:=Lib.hid (ltrim_stop (c:=c) (t:=t) (.inl (by omega)))
   go_wp2
   go_ret
   exact ⟨ret_s (by rw [<-HT.out,HS.out,ofL_of]),rfl⟩
set_option maxRecDepth 100000 in
theorem trimRightByte_any (s : ByteArray) (c : UInt8) (n : Int) (hn : n = c.toNat) (w : World) (hs : s.size ≤ maxLen) :
 Calls Tryz.prog 190 #[.string s,.int .u8 n] w fun e w'=>e = .returned (.string (ofL (rtrimL c s.data.toList)))/\w=w':=by
 unfold maxLen at hs
 have HN:=Lib.hid hn
 clear hn
 go_enter Tryz.func190,Tryz.ntmps190
 go_wp2
 go_loop [0] (fun v=>∃ t:ByteArray,v = .string t/\t.size<=s.size/\Hid (rtrimL c t.data.toList=rtrimL c s.data.toList)) (fun v=>slen v)
 case atStart=>exact ⟨s,rfl,Nat.le_refl _,rfl⟩
 case round =>
  obtain ⟨t,rfl,ht,HT⟩:=hrel
  by_cases h0:0<t.size
  ·have h1:t.size-1<t.size:=by omega
   have HB:=Lib.hid (byt_get t (t.size-1) h1)
   have hb':t[t.size-1].toNat<256:=UInt8.toNat_lt _
   by_cases hc:byt t (t.size-1)=c.toNat
   ·have hq:(((t[t.size-1].toNat:Nat):Int)==n)=true:=by rw [HN.out,HB.out,hc];simp
    have HS:=Lib.hid (rtrim_step h0 hc)
    clear hc
    go_wp2
    go_round
    case rel=>exact ⟨_,rfl,by simp;omega,HS.out.trans HT.out⟩
    case measure=>simp [slen];omega
   ·have hq:(((t[t.size-1].toNat:Nat):Int)==n)=false:=by rw [HN.out,HB.out,beq_eq_false_iff_ne];omega
    have HS:=Lib.hid (rtrim_stop (c:=c) (t:=t) (.inr hc))
    clear hc
    go_wp2
    go_ret
    exact ⟨ret_s (by rw [<-HT.out,HS.out,ofL_of]),rfl⟩
  ·have HS:=Lib.hid (rtrim_stop (c:=c) (t:=t) (.inl (by omega)))
   go_wp2
   go_ret
   exact ⟨ret_s (by rw [<-HT.out,HS.out,ofL_of]),rfl⟩
set_option maxRecDepth 100000 in
theorem Trim0_any (s : ByteArray) (w : World) (hs : s.size ≤ maxLen) :
 Calls Tryz.prog 130 #[.string s,.string ⟨#[0]⟩] w fun e w'=>e = .returned (.string (ofL (ltrimL 0 (rtrimL 0 s.data.toList))))/\Below w.heap.size w w':=by
 by_cases h0:s.size=0
 ·have HF:=Lib.hid (show ofL (ltrimL 0 (rtrimL 0 s.data.toList))=s by rw [rtrim_stop (.inl h0),ltrim_stop (.inl h0),ofL_of])
  have he:=empty_t h0
  clear h0
  go_enter Tryz.func130,Tryz.ntmps130
  go_wp2
  go_ret
  exact ⟨ret_s HF.out,Below.refl _ _⟩
 ·have he:=empty_f h0
  have hr:=rtrim_length 0 s.data.toList
  rw [<-Lib.size_eq s] at hr
  have hz:(ofL (rtrimL 0 s.data.toList)).size<=maxLen:=by rw [ofL_size];omega
  have HR:=Lib.hid (fun (w:World)=>trimRightByte_any s 0 0 rfl w hs)
  have hl:=fun (w:World)=>trimLeftByte_any (ofL (rtrimL 0 s.data.toList)) 0 0 rfl w hz
  rw [ofL_data] at hl
  have HL:=Lib.hid hl
  clear h0 hr hz hl hs
  go_enter Tryz.func130,Tryz.ntmps130
  go_wp2_with fail
  go_quiet ((first|(go_at_call 190;exact quiet_same (HR.out _))|(go_at_call 189;exact quiet_same (HL.out _))))
  go_wp2
  go_ret
  exact ⟨rfl,below_draws _ _ _⟩
end Go.Proofs.YtaffgndickdbiaaGreatDoor
namespace Go.Creel
def zpos (s : ByteArray) : Nat := if hasB s 0 = true then (firstIdx s 0).toNat else s.size
def allz (s : ByteArray) : Prop := ∀ x ∈ s.data.toList,x = 0
open Classical in
noncomputable def fieldOf (s : ByteArray) (whole : Bool) : ByteArray × Int :=
 if s.size<1\/512<s.size then (ByteArray.empty,4)
 else if (zpos s=s.size/\whole=false)\/¬ allz (s.extract (zpos s) s.size) then (ByteArray.empty,3)
 else (s.extract 0 (zpos s),0)
theorem extract_all (s : ByteArray) : s.extract 0 s.size = s := by
 apply ext_bytes
 rw [Lib.extract_data,Lib.size_eq s,List.drop_zero,Nat.sub_zero]
 exact List.take_length
theorem extract_none (s : ByteArray) : (s.extract s.size s.size).data.toList = [] := by
 rw [Lib.extract_data];simp
theorem zpos_yes {s : ByteArray} {k : Nat} (h1 : k < s.size) (h2 : byt s k = 0) (h3 : ∀ j,j < k → byt s j ≠ 0) : zpos s = k ∧ firstIdx s 0 = k := by
 have hh:hasB s 0=true:=hasB_true h1 h2
 have hg:=idx_ge hh
 rcases idx_lt (s:=s) (c:=0) with h|⟨i,hi,h4,h5,h6⟩
 ·omega
 ·have:i=k:=by
   rcases Nat.lt_trichotomy i k with h|h|h
   ·exact absurd h5 (h3 i h)
   ·exact h
   ·exact absurd h2 (h6 k h)
  subst this
  exact ⟨by unfold zpos;rw [if_pos hh,hi];simp,hi⟩
theorem zpos_no {s : ByteArray} (h : ∀ j,j < s.size → byt s j ≠ 0) : zpos s = s.size ∧ firstIdx s 0 = -1 := by
 have hh:hasB s 0=false:=hasB_false h
 exact ⟨by unfold zpos;rw [if_neg (by rw [hh];simp)],idx_none hh⟩
theorem zpos_cases (s : ByteArray) : (zpos s = s.size ∧ firstIdx s 0 = -1) ∨ (zpos s < s.size ∧ firstIdx s 0 = zpos s) := by
 cases hh:hasB s 0 with
 | false=>exact .inl (zpos_no (fun j hj=>hasB_no hh j hj))
 | true =>
   have hg:=idx_ge hh
   rcases idx_lt (s:=s) (c:=0) with h|⟨i,hi,h4,h5,h6⟩
   ·omega
   ·obtain ⟨e1,e2⟩:=zpos_yes h4 h5 h6
    exact .inr ⟨by omega,by rw [e2,e1]⟩
theorem allz_eq {t : ByteArray} {n : Nat} (hn : t.size = n) : t = zerosS n ↔ allz t := by
 constructor
 ·intro h x hx
  rw [h] at hx
  unfold zerosS at hx
  rw [ofL_data] at hx
  exact List.eq_of_mem_replicate hx
 ·intro h
  apply ext_bytes
  unfold zerosS
  rw [ofL_data,List.eq_replicate_iff]
  exact ⟨(Lib.size_eq t).symm.trans hn,h⟩
theorem fieldOf_range {s : ByteArray} {b : Bool} (h : s.size < 1 ∨ 512 < s.size) : fieldOf s b = (ByteArray.empty,4) := by unfold fieldOf; rw [if_pos h]
theorem fieldOf_form {s : ByteArray} {b : Bool} (h : ¬ (s.size < 1 ∨ 512 < s.size)) (h2 : (zpos s = s.size ∧ b = false) ∨ ¬ allz (s.extract (zpos s) s.size)) : fieldOf s b = (ByteArray.empty,3) := by unfold fieldOf; rw [if_neg h,if_pos h2]
theorem fieldOf_yes {s : ByteArray} {b : Bool} (h : ¬ (s.size < 1 ∨ 512 < s.size)) (h2 : ¬ ((zpos s = s.size ∧ b = false) ∨ ¬ allz (s.extract (zpos s) s.size))) : fieldOf s b = (s.extract 0 (zpos s),0) := by unfold fieldOf; rw [if_neg h,if_neg h2]
theorem sne_t {a b : ByteArray} (h : a ≠ b) : (!(a.toList == b.toList)) = true := by rw [seq_f h]; rfl
theorem sne_f {a b : ByteArray} (h : a = b) : (!(a.toList == b.toList)) = false := by rw [seq_t h]; rfl
end Go.Creel
namespace Go.Proofs.YtaffgndickdbiaaGreatDoor
open Go.Creel Go.RowKit
theorem Trim0_yes {s : ByteArray} (h : allz s) (w : World) (hs : s.size ≤ maxLen) :
 Calls Tryz.prog 130 #[.string s,.string ⟨#[0]⟩] w fun e w'=>e = .returned (.string ⟨#[]⟩)/\Below w.heap.size w w':=by
 refine (Trim0_any s w hs).mono ?_
 rintro e w' ⟨rfl,hb⟩
 rw [trim_empty.2 h]
 exact ⟨rfl,hb⟩
theorem Trim0_no {s : ByteArray} (h : ¬ allz s) (w : World) (hs : s.size ≤ maxLen) :
 Calls Tryz.prog 130 #[.string s,.string ⟨#[0]⟩] w fun e w'=>Below w.heap.size w w'/\∃ t:ByteArray,e = .returned (.string t)/\t.toList.isEmpty=false:=by
 refine (Trim0_any s w hs).mono ?_
 rintro e w' ⟨rfl,hb⟩
 refine ⟨hb,_,rfl,empty_f ?_⟩
 rw [ofL_size]
 intro e
 exact h (trim_empty.1 (List.eq_nil_of_length_eq_zero e))
set_option maxRecDepth 100000 in
set_option maxHeartbeats 1000000 in
theorem FieldRead_any (s : ByteArray) (b : Bool) (w : World) (hs : s.size ≤ maxLen) :
 Calls Tryz.prog 209 #[.string s,.bool b] w fun e w'=>e = .returned (.tuple #[.string (fieldOf s b).1,.int .i64 (fieldOf s b).2])/\Below w.heap.size w w':=by
 have hs':=hs
 unfold maxLen at hs
 by_cases h:s.size<1\/512<s.size
 ·have HF:=Lib.hid (fieldOf_range (b:=b) h)
  rcases h with h|h
  ·go_enter Tryz.func209,Tryz.ntmps209
   go_wp2
   go_ret2
   exact ⟨ret_si HF.out,Below.refl _ _⟩
  ·go_enter Tryz.func209,Tryz.ntmps209
   go_wp2
   go_ret2
   exact ⟨ret_si HF.out,Below.refl _ _⟩
 ·have h1:1<=s.size:=by omega
  have h2:s.size<=512:=by omega
  have HN:=Lib.hid h
  clear h
  rcases zpos_cases s with ⟨hz,hi⟩|⟨hz,hi⟩
  ·have hall:allz (s.extract (zpos s) s.size):=by
    intro x hx
    rw [hz,extract_none] at hx
    cases hx
   have hd:decide (0<=firstIdx s 0)=false:=by rw [hi];rfl
   cases b with
   | false =>
     have HF:=Lib.hid (fieldOf_form (b:=false) HN.out (.inl ⟨hz,rfl⟩))
     clear hz hi hall
     go_enter Tryz.func209,Tryz.ntmps209
     go_wp2_with (first|(go_at_call 84;refine (IndexByte_any _ _ _).mono ?_;rintro e w' ⟨rfl,rfl⟩))
     go_ret2
     exact ⟨ret_si HF.out,Below.refl _ _⟩
   | true =>
     have HF:=Lib.hid ((fieldOf_yes (b:=true) HN.out (by simp [hall])).trans (by rw [hz,extract_all]))
     clear hz hi hall
     go_enter Tryz.func209,Tryz.ntmps209
     go_wp2_with (first|(go_at_call 84;refine (IndexByte_any _ _ _).mono ?_;rintro e w' ⟨rfl,rfl⟩)|(go_at_call 130;refine (Trim0_yes (s:=⟨#[]⟩) (fun x hx=>by cases hx) _ (by decide)).mono ?_;rintro e w' ⟨rfl,hb⟩;have HB:=Lib.hid hb;clear hb))
     go_ret2
     exact ⟨ret_si HF.out,HB.out⟩
  ·have hd:decide (0<=firstIdx s 0)=true:=by rw [hi];simp
   have hne:((s.extract (zpos s) s.size).toList.isEmpty)=false:=empty_f (by simp;omega)
   have hsz:(s.extract (zpos s) s.size).size<=maxLen:=by unfold maxLen;simp;omega
   by_cases hall:allz (s.extract (zpos s) s.size)
   ·have HF:=Lib.hid (fieldOf_yes (b:=b) HN.out (by simp [hall];intro e;omega))
    have HT:=Lib.hid (fun (w:World)=>Trim0_yes hall w hsz)
    clear hall hsz
    generalize zpos s=z at *
    go_enter Tryz.func209,Tryz.ntmps209
    go_wp2_with (go_at_call 84;refine (IndexByte_any _ _ _).mono ?_;rintro e w' ⟨rfl,rfl⟩)
    go_quiet (fail)
    go_wp2_with (go_at_call 130;refine (HT.out _).mono ?_;rintro e w' ⟨rfl,hb⟩;have HB:=Lib.hid hb;clear hb)
    go_ret2
    exact ⟨ret_si HF.out,(below_draws w.heap.size _ _).trans HB.out⟩
   ·have HF:=Lib.hid (fieldOf_form (b:=b) HN.out (.inr hall))
    have HT:=Lib.hid (fun (w:World)=>Trim0_no hall w hsz)
    clear hall hsz
    generalize zpos s=z at *
    go_enter Tryz.func209,Tryz.ntmps209
    go_wp2_with (go_at_call 84;refine (IndexByte_any _ _ _).mono ?_;rintro e w' ⟨rfl,rfl⟩)
    go_quiet (fail)
    go_wp2_with (go_at_call 130;refine (HT.out _).mono ?_;rintro e w' ⟨hb,t,rfl,htt⟩;have HB:=Lib.hid hb;clear hb)
    go_ret2
    exact ⟨ret_si HF.out,(below_draws w.heap.size _ _).trans HB.out⟩
end Go.Proofs.YtaffgndickdbiaaGreatDoor
