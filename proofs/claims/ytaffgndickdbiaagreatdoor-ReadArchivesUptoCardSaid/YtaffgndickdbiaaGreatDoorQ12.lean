/-
  Texts: CutOne, MemRSpec, Eye.
-/
import Derived.Test.YtaffgndickdbiaaGreatDoorQ10
import Derived.Test.YtaffgndickdbiaaGreatDoorQ11
import Derived.Lib.AtoiAll
set_option linter.unusedVariables false
set_option linter.unusedSimpArgs false
set_option linter.unusedSectionVars false
namespace Go.Creel
def joinS (p n : ByteArray) : ByteArray := if p.size = 0 then n else p ++ ofL [47] ++ n
open Classical in
noncomputable def cutOne (p n : ByteArray) : ByteArray × Int :=
 if n.size=0\/100<n.size\/155<p.size then (ByteArray.empty,1)
 else if cutTwo (joinS p n)=(p,n,0) then (joinS p n,0) else (ByteArray.empty,3)
theorem cutOne_size {p n : ByteArray} (h : n.size = 0 ∨ 100 < n.size ∨ 155 < p.size) : cutOne p n = (ByteArray.empty,1) := by unfold cutOne; rw [if_pos h]
theorem cutOne_yes {p n : ByteArray} (h : ¬ (n.size = 0 ∨ 100 < n.size ∨ 155 < p.size)) (h2 : cutTwo (joinS p n) = (p,n,0)) : cutOne p n = (joinS p n,0) := by unfold cutOne; rw [if_neg h,if_pos h2]
theorem cutOne_no {p n : ByteArray} (h : ¬ (n.size = 0 ∨ 100 < n.size ∨ 155 < p.size)) (h2 : cutTwo (joinS p n) ≠ (p,n,0)) : cutOne p n = (ByteArray.empty,3) := by unfold cutOne; rw [if_neg h,if_neg h2]
theorem sneC_t {a b : ByteArray} (h : a ≠ b) : (!(a.toList == b.toList)) = true := by rw [seq_f h]; rfl
theorem sneC_f {a b : ByteArray} (h : a = b) : (!(a.toList == b.toList)) = false := by rw [seq_t h]; rfl
end Go.Creel
namespace Go.Proofs.YtaffgndickdbiaaGreatDoor
open Go.Creel Go.RowKit
set_option maxRecDepth 100000 in
set_option maxHeartbeats 2000000 in
theorem One_any (p n : ByteArray) (w : World) (hp : p.size ≤ maxLen) (hn : n.size ≤ maxLen) :
 Calls Tryz.prog 124 #[.string p,.string n] w fun e w'=>e = .returned (.tuple #[.string (cutOne p n).1,.int .i64 (cutOne p n).2])/\Below w.heap.size w w':=by
 unfold maxLen at hp hn
 by_cases h:n.size=0\/100<n.size\/155<p.size
 ·have HF:=Lib.hid (cutOne_size h)
  rcases (show n.size=0\/(1<=n.size/\100<n.size)\/(1<=n.size/\n.size<=100/\155<p.size) by omega) with h1|⟨h1,h2⟩|⟨h1,h2,h3⟩
  ·have he:=empty_t h1
   have h1':((n.size:Int)<1):=by omega
   clear h h1
   go_enter Tryz.func124,Tryz.ntmps124
   go_wp2
   go_ret2
   exact ⟨ret_si HF.out,Below.refl _ _⟩
  all_goals
   have he:=empty_f (a:=n) (by omega)
   clear h
   go_enter Tryz.func124,Tryz.ntmps124
   go_wp2
   go_ret2
   exact ⟨ret_si HF.out,Below.refl _ _⟩
 ·have h1:1<=n.size:=by omega
  have h2:n.size<=100:=by omega
  have h3:p.size<=155:=by omega
  have hen:=empty_f (a:=n) (by omega)
  have HN:=Lib.hid h
  clear h
  have key:∀ (s:ByteArray) (w:World),joinS p n=s->s.size<=256->Calls Tryz.prog 90 #[.string s] w fun e w'=>Below w.heap.size w w'/\∃ a b e0,e = .returned (.tuple #[.string a,.string b,.int .i64 e0]) ∧
   ((e0=0/\a=p/\b=n/\Hid (cutOne p n=(s,0)))\/(¬ (e0=0/\a=p/\b=n)/\Hid (cutOne p n=(ByteArray.empty,3)))):=by
   intro s w hs hsz
   refine (Two_any s w (by unfold maxLen;omega)).mono ?_
   rintro e w' ⟨rfl,hb⟩
   refine ⟨hb,_,_,_,rfl,?_⟩
   subst hs
   by_cases hc:cutTwo (joinS p n)=(p,n,0)
   ·left
    rw [hc]
    exact ⟨rfl,rfl,rfl,cutOne_yes HN.out hc⟩
   ·right
    exact ⟨fun ⟨a,b,c⟩=>hc (Prod.ext b (Prod.ext c a)),cutOne_no HN.out hc⟩
  have KEY:=Lib.hid key
  clear key
  by_cases h0:p.size=0
  ·have hj:joinS p n=n:=by unfold joinS;rw [if_pos h0]
   have HJ:=Lib.hid hj
   have he:=empty_t h0
   have he2:(!p.toList.isEmpty)=false:=by rw [he];rfl
   clear h0 hj
   go_enter Tryz.func124,Tryz.ntmps124
   go_wp2_with fail
   refine (KEY.out n _ HJ.out (by omega)).mono ?_
   rintro e w' ⟨hb,a,b,e0,rfl,⟨rfl,rfl,rfl,HF⟩|⟨hno,HF⟩⟩
   ·have HB:=Lib.hid hb
    clear hb
    go_wp2
    go_ret2
    exact ⟨ret_si HF.out,HB.out⟩
   ·have HB:=Lib.hid hb
    have HNO:=Lib.hid hno
    clear hb hno
    by_cases c1:e0=0
    ·have d1:(e0 != 0)=false:=by simp [c1]
     by_cases c2:a=p
     ·have d2:=sneC_f c2
      have c3:b≠n:=fun c3=>HNO.out ⟨c1,c2,c3⟩
      have d3:=sneC_t c3
      clear c1 c2 c3
      go_wp2
      go_ret2
      exact ⟨ret_si HF.out,HB.out⟩
     ·have d2:=sneC_t c2
      clear c1 c2
      go_wp2
      go_ret2
      exact ⟨ret_si HF.out,HB.out⟩
    ·have d1:(e0 != 0)=true:=by simpa using c1
     clear c1
     go_wp2
     go_ret2
     exact ⟨ret_si HF.out,HB.out⟩
  ·have hj:joinS p n=p++ofL [47]++n:=by unfold joinS;rw [if_neg h0]
   have HJ:=Lib.hid hj
   have he:=empty_f h0
   have he2:(!p.toList.isEmpty)=true:=by rw [he];rfl
   have HZ:=Lib.hid (show (p++ofL [47]++n).size<=256 by simp [ofL_size];omega)
   clear h0 hj
   go_enter Tryz.func124,Tryz.ntmps124
   go_wp2_with fail
   refine (KEY.out _ _ (by exact HJ.out) (by exact HZ.out)).mono ?_
   rintro e w' ⟨hb,a,b,e0,rfl,⟨rfl,rfl,rfl,HF⟩|⟨hno,HF⟩⟩
   ·have HB:=Lib.hid hb
    clear hb
    go_wp2
    go_ret2
    exact ⟨ret_si HF.out,HB.out⟩
   ·have HB:=Lib.hid hb
    have HNO:=Lib.hid hno
    clear hb hno
    by_cases c1:e0=0
    ·have d1:(e0 != 0)=false:=by simp [c1]
     by_cases c2:a=p
     ·have d2:=sneC_f c2
      have c3:b≠n:=fun c3=>HNO.out ⟨c1,c2,c3⟩
      have d3:=sneC_t c3
      clear c1 c2 c3
      go_wp2
      go_ret2
      exact ⟨ret_si HF.out,HB.out⟩
     ·have d2:=sneC_t c2
      clear c1 c2
      go_wp2
      go_ret2
      exact ⟨ret_si HF.out,HB.out⟩
    ·have d1:(e0 != 0)=true:=by simpa using c1
     clear c1
     go_wp2
     go_ret2
     exact ⟨ret_si HF.out,HB.out⟩
set_option maxRecDepth 100000 in
set_option maxHeartbeats 2000000 in
theorem CutOne_any (p n : ByteArray) (w : World) (hp : p.size ≤ maxLen) (hn : n.size ≤ maxLen) :
 Calls Tryz.prog 56 #[.string p,.string n] w fun e w'=>e = .returned (.tuple #[.string (cutOne p n).1,.int .i64 (cutOne p n).2])/\Below w.heap.size w w':=by
 unfold maxLen at hp hn
 by_cases h:n.size=0\/100<n.size\/155<p.size
 ·have HF:=Lib.hid (cutOne_size h)
  rcases (show n.size=0\/(1<=n.size/\100<n.size)\/(1<=n.size/\n.size<=100/\155<p.size) by omega) with h1|⟨h1,h2⟩|⟨h1,h2,h3⟩
  ·have he:=empty_t h1
   have h1':((n.size:Int)<1):=by omega
   clear h h1
   go_enter Tryz.func56,Tryz.ntmps56
   go_wp2
   go_ret2
   exact ⟨ret_si HF.out,Below.refl _ _⟩
  all_goals
   have he:=empty_f (a:=n) (by omega)
   clear h
   go_enter Tryz.func56,Tryz.ntmps56
   go_wp2
   go_ret2
   exact ⟨ret_si HF.out,Below.refl _ _⟩
 ·have h1:1<=n.size:=by omega
  have h2:n.size<=100:=by omega
  have h3:p.size<=155:=by omega
  have hen:=empty_f (a:=n) (by omega)
  have HN:=Lib.hid h
  clear h
  have key:∀ (s:ByteArray) (w:World),joinS p n=s->s.size<=256->Calls Tryz.prog 100 #[.string s] w fun e w'=>Below w.heap.size w w'/\∃ a b e0,e = .returned (.tuple #[.string a,.string b,.int .i64 e0]) ∧
   ((e0=0/\a=p/\b=n/\Hid (cutOne p n=(s,0)))\/(¬ (e0=0/\a=p/\b=n)/\Hid (cutOne p n=(ByteArray.empty,3)))):=by
   intro s w hs hsz
   refine (CutTwo_any s w (by unfold maxLen;omega)).mono ?_
   rintro e w' ⟨rfl,hb⟩
   refine ⟨hb,_,_,_,rfl,?_⟩
   subst hs
   by_cases hc:cutTwo (joinS p n)=(p,n,0)
   ·left
    rw [hc]
    exact ⟨rfl,rfl,rfl,cutOne_yes HN.out hc⟩
   ·right
    exact ⟨fun ⟨a,b,c⟩=>hc (Prod.ext b (Prod.ext c a)),cutOne_no HN.out hc⟩
  have KEY:=Lib.hid key
  clear key
  by_cases h0:p.size=0
  ·have hj:joinS p n=n:=by unfold joinS;rw [if_pos h0]
   have HJ:=Lib.hid hj
   have he:=empty_t h0
   have he2:(!p.toList.isEmpty)=false:=by rw [he];rfl
   clear h0 hj
   go_enter Tryz.func56,Tryz.ntmps56
   go_wp2_with fail
   refine (KEY.out n _ HJ.out (by omega)).mono ?_
   rintro e w' ⟨hb,a,b,e0,rfl,⟨rfl,rfl,rfl,HF⟩|⟨hno,HF⟩⟩
   ·have HB:=Lib.hid hb
    clear hb
    go_wp2
    go_ret2
    exact ⟨ret_si HF.out,HB.out⟩
   ·have HB:=Lib.hid hb
    have HNO:=Lib.hid hno
    clear hb hno
    by_cases c1:e0=0
    ·have d1:(e0 != 0)=false:=by simp [c1]
     by_cases c2:a=p
     ·have d2:=sneC_f c2
      have c3:b≠n:=fun c3=>HNO.out ⟨c1,c2,c3⟩
      have d3:=sneC_t c3
      clear c1 c2 c3
      go_wp2
      go_ret2
      exact ⟨ret_si HF.out,HB.out⟩
     ·have d2:=sneC_t c2
      clear c1 c2
      go_wp2
      go_ret2
      exact ⟨ret_si HF.out,HB.out⟩
    ·have d1:(e0 != 0)=true:=by simpa using c1
     clear c1
     go_wp2
     go_ret2
     exact ⟨ret_si HF.out,HB.out⟩
  ·have hj:joinS p n=p++ofL [47]++n:=by unfold joinS;rw [if_neg h0]
   have HJ:=Lib.hid hj
   have he:=empty_f h0
   have he2:(!p.toList.isEmpty)=true:=by rw [he];rfl
   have HZ:=Lib.hid (show (p++ofL [47]++n).size<=256 by simp [ofL_size];omega)
   clear h0 hj
   go_enter Tryz.func56,Tryz.ntmps56
   go_wp2_with fail
   refine (KEY.out _ _ (by exact HJ.out) (by exact HZ.out)).mono ?_
   rintro e w' ⟨hb,a,b,e0,rfl,⟨rfl,rfl,rfl,HF⟩|⟨hno,HF⟩⟩
   ·have HB:=Lib.hid hb
    clear hb
    go_wp2
    go_ret2
    exact ⟨ret_si HF.out,HB.out⟩
   ·have HB:=Lib.hid hb
    have HNO:=Lib.hid hno
    clear hb hno
    by_cases c1:e0=0
    ·have d1:(e0 != 0)=false:=by simp [c1]
     by_cases c2:a=p
     ·have d2:=sneC_f c2
      have c3:b≠n:=fun c3=>HNO.out ⟨c1,c2,c3⟩
      have d3:=sneC_t c3
      clear c1 c2 c3
      go_wp2
      go_ret2
      exact ⟨ret_si HF.out,HB.out⟩
     ·have d2:=sneC_t c2
      clear c1 c2
      go_wp2
      go_ret2
      exact ⟨ret_si HF.out,HB.out⟩
    ·have d1:(e0 != 0)=true:=by simpa using c1
     clear c1
     go_wp2
     go_ret2
     exact ⟨ret_si HF.out,HB.out⟩
end Go.Proofs.YtaffgndickdbiaaGreatDoor
namespace Go.Creel
open Go.RowKit
noncomputable def head512 (b : List UInt8) : HeadN × Int := headOf (ofL (b.take 512))
theorem octOf_rng (s : ByteArray) : 0 ≤ (octOf s).1 ∧ (octOf s).1 < 8589934592 := by
 unfold octOf
 split
 ·split
  ·rename_i h1 h2
   have h3:=oval_lt s (s.size-1) h2.1
   have h8:8 ^ (s.size-1)<=8 ^ 11:=Nat.pow_le_pow_right (by decide) (by omega)
   have e:(8:Nat) ^ 11=8589934592:=by decide
   simp only;omega
  ·simp
 ·simp
theorem headOf_cases (s : ByteArray) : (headOf s).1 = headNone ∨ (headOf s).1 = headFields s := by
 unfold headOf
 split
 ·exact .inl rfl
 ·split
  ·exact .inl rfl
  ·split
   ·exact .inl rfl
   ·exact .inr rfl
set_option maxRecDepth 100000 in
theorem head512_size (b : List UInt8) : 0 ≤ (head512 b).1.size ∧ (head512 b).1.size < 8589934592 := by
 unfold head512
 generalize ofL (b.take 512)=s
 rcases headOf_cases s with e|e<;>rw [e]
 ·simp [headNone]
 ·simp only [headFields]
  have h:=octOf_rng (s.extract 124 136)
  generalize octOf (s.extract 124 136)=p at *
  exact h
noncomputable def blockOf (b : List UInt8) : HeadN × List UInt8 × List UInt8 × Int :=
 if b.length<512 then (headNone,[],[],7)
 else if ¬ (head512 b).2=0 then (headNone,[],[],(head512 b).2)
 else ((head512 b).1,padCut (b.drop 512) (head512 b).1.size)
theorem blockOf_short {b : List UInt8} (h : b.length < 512) : blockOf b = (headNone,[],[],7) := if_pos h
theorem blockOf_head {b : List UInt8} (h : ¬ b.length < 512) (h2 : ¬ (head512 b).2 = 0) : blockOf b = (headNone,[],[],(head512 b).2) := by unfold blockOf; rw [if_neg h,if_pos h2]
theorem blockOf_cut {b : List UInt8} (h : ¬ b.length < 512) (h2 : (head512 b).2 = 0) : blockOf b = ((head512 b).1,padCut (b.drop 512) (head512 b).1.size) := by unfold blockOf; rw [if_neg h,if_neg (by simpa using h2)]
noncomputable def firstOf (b : List UInt8) : HeadN × List UInt8 × Int × Int :=
 if (blockOf b).2.2.2=0 then ((blockOf b).1,(blockOf b).2.1,((512+(padFill (blockOf b).2.1).length:Nat):Int),0) else (headNone,[],0,(blockOf b).2.2.2)
theorem padCut_ok {l : List UInt8} {n : Int} (h : (padCut l n).2.2 = 0) : (padFill (padCut l n).1).length + (padCut l n).2.1.length = l.length ∧ (padFill (padCut l n).1).length ≤ l.length ∧ (padCut l n).2.1 = l.drop (padFill (padCut l n).1).length := by
 unfold padCut at h ⊢
 split at h
 ·cases h
 ·split at h
  ·cases h
  ·split at h
   ·rename_i h1 h2 h3
    rw [if_neg h1,if_neg h2,if_pos h3]
    have hl:(padFill (l.take n.toNat)).length=(n.toNat+511) / 512*512:=by
     unfold padFill padLack
     rw [List.length_append,List.length_replicate,List.length_take]
     omega
    simp only [hl,List.length_drop]
    refine ⟨by omega,by omega,trivial⟩
   ·cases h
theorem blockOf_ok {b : List UInt8} (h : (blockOf b).2.2.2 = 0) : 512 + (padFill (blockOf b).2.1).length + (blockOf b).2.2.1.length = b.length ∧ (blockOf b).2.2.1 = b.drop (512 + (padFill (blockOf b).2.1).length) := by
 by_cases h1:b.length<512
 ·rw [blockOf_short h1] at h;cases h
 ·by_cases h2:(head512 b).2=0
  ·rw [blockOf_cut h1 h2] at h ⊢
   obtain ⟨a1,a2,a3⟩:=padCut_ok h
   simp only
   rw [List.length_drop] at a1
   refine ⟨by omega,?_⟩
   rw [a3,List.drop_drop]
  ·rw [blockOf_head h1 h2] at h;exact absurd h h2
theorem padCut_small {l : List UInt8} {n : Int} : (padCut l n).1.length ≤ l.length ∧ (padCut l n).2.1.length ≤ l.length := by
 unfold padCut
 split
 ·simp
 ·split
  ·simp
  ·split
   ·simp only [List.length_take,List.length_drop];omega
   ·simp
open Go.RowKit
def EyeB (t : TypeId) (w : World) (b : Nat) (r : ByteArray) (e : Int) : Prop := w.heap[b]? = some (.cells #[.string r,.int .i64 e] t (0,0))
theorem EyeB.c0 {t : TypeId} {w : World} {b : Nat} {r : ByteArray} {e : Int} (h : EyeB t w b r e) : w.cell? ⟨b,0,none⟩ = some (.string r) := cellAt h rfl
theorem EyeB.c1 {t : TypeId} {w : World} {b : Nat} {r : ByteArray} {e : Int} (h : EyeB t w b r e) : w.cell? ⟨b,1,none⟩ = some (.int .i64 e) := cellAt h rfl
theorem EyeB.free {t : TypeId} {w : World} {b : Nat} {r : ByteArray} {e : Int} (h : EyeB t w b r e) (j : Nat) : w.frozen? ⟨b,j,none⟩ = false := frozen_of_row w b j _ t h
theorem EyeB.lt {t : TypeId} {w : World} {b : Nat} {r : ByteArray} {e : Int} (h : EyeB t w b r e) : b < w.heap.size := (Array.getElem?_eq_some_iff.1 h).1
theorem EyeB.rest {t : TypeId} {w : World} {b : Nat} {r : ByteArray} {e : Int} (h : EyeB t w b r e) (r' : ByteArray) : EyeB t (w.setCell ⟨b,0,none⟩ (.string r')) b r' e := by
 unfold EyeB
 rw [heap_setCell_same w b 0 _ t _ h]
 rfl
theorem EyeB.err {t : TypeId} {w : World} {b : Nat} {r : ByteArray} {e : Int} (h : EyeB t w b r e) (e' : Int) : EyeB t (w.setCell ⟨b,1,none⟩ (.int .i64 e')) b r e' := by
 unfold EyeB
 rw [heap_setCell_same w b 1 _ t _ h]
 rfl
theorem EyeB.below {t : TypeId} {w w' : World} {b : Nat} {r : ByteArray} {e : Int} (h : EyeB t w b r e) (hb : Below w.heap.size w w') : EyeB t w' b r e := (hb.block b h.lt).trans h
theorem grown_set (w : World) (b j : Nat) (u : Value) : w.grownBy (w.setCell ⟨b,j,none⟩ u) (some b) := by
 refine ⟨rfl,rfl,rfl,by simp [World.setCell],fun k _ hk=>heap_setCell_other w ⟨b,j,none⟩ k u (fun e=>hk (by rw [e]))⟩
theorem grown_below {w w' : World} {row : Option Nat} (hb : Below w.heap.size w w') : w.grownBy w' row := ⟨hb.os,hb.tape,hb.output,hb.size,fun k hk _ => hb.block k hk⟩
theorem grown_trans {w w1 w2 : World} {row : Option Nat} (h1 : w.grownBy w1 row) (h2 : w1.grownBy w2 row) : w.grownBy w2 row := by
 obtain ⟨a1,a2,a3,a4,a5⟩:=h1
 obtain ⟨b1,b2,b3,b4,b5⟩:=h2
 exact ⟨b1.trans a1,b2.trans a2,b3.trans a3,Nat.le_trans a4 b4,fun k hk hne=>(b5 k (Nat.lt_of_lt_of_le hk a4) hne).trans (a5 k hk hne)⟩
theorem grown_refl (w : World) (row : Option Nat) : w.grownBy w row := ⟨rfl,rfl,rfl,Nat.le_refl _,fun _ _ _ => rfl⟩
theorem left_take (s : ByteArray) {k n : Nat} (h : k + n ≤ s.size) : (s.extract k s.size).extract 0 n = s.extract k (k + n) := by
 apply ext_bytes
 rw [Lib.extract_data,Lib.extract_data,Lib.extract_data,List.drop_zero,Nat.sub_zero,List.take_take]
 congr 1
 omega
theorem left_drop (s : ByteArray) {k n : Nat} : (s.extract k s.size).extract n (s.extract k s.size).size = s.extract (k + n) s.size := by
 have hz:(s.extract k s.size).size=s.size-k:=by simp
 rw [hz]
 apply ext_bytes
 rw [Lib.extract_data,Lib.extract_data,Lib.extract_data]
 rw [List.take_of_length_le (l:=s.data.toList.drop k) (by simp),List.drop_drop]
 rw [List.take_of_length_le (by simp;omega),List.take_of_length_le (by simp)]
def EyeAt (t : TypeId) (w : World) (b : Nat) (s : ByteArray) (k : Nat) (e : Int) : Prop := EyeB t w b (s.extract k s.size) e
end Go.Creel
namespace Go.Proofs.YtaffgndickdbiaaGreatDoor
open Go.Creel Go.RowKit
abbrev tEye : TypeId := 182
set_option maxRecDepth 100000 in
theorem Take_any (b : Nat) (s : ByteArray) (k n : Nat) (e : Int) (w : World) (h : EyeAt tEye w b s k e) (hk : k + n ≤ s.size) (hs : s.size ≤ 1000) :
 Calls Tryz.prog 168 #[.pointer (some ⟨b,0,none⟩),.int .i64 n] w fun x w'=>x = .returned (.string (s.extract k (k+n)))/\EyeAt tEye w' b s (k+n) e/\w.grownBy w' (some b):=by
 have hT:=Lib.hid (left_take s hk)
 have hD:=Lib.hid (left_drop s (k:=k) (n:=n))
 have hz:(s.extract k s.size).size=s.size-k:=by simp
 have H:Hid (EyeB tEye w b (s.extract k s.size) e):=Lib.hid h
 have hn:n<=(s.extract k s.size).size:=by omega
 have hl:(s.extract k s.size).size<=1000:=by omega
 clear h hz
 unfold EyeAt
 rw [<-hT.out,<-hD.out]
 clear hT hD
 generalize s.extract k s.size=r at *
 have c0:=H.out.c0
 have f0:=H.out.free 0
 have HG:=Lib.hid (grown_set w b 0 (.string (r.extract n r.size)))
 go_enter Tryz.func168,Tryz.ntmps168
 go_wp2
 go_ret
 exact ⟨rfl,H.out.rest _,HG.out⟩
set_option maxRecDepth 100000 in
theorem Note_any (b : Nat) (s : ByteArray) (k : Nat) (e f : Int) (w : World) (h : EyeAt tEye w b s k e) :
 Calls Tryz.prog 169 #[.pointer (some ⟨b,0,none⟩),.int .i64 f] w fun x w'=>x = .returned (.tuple #[])/\EyeAt tEye w' b s k (note e f)/\w.grownBy w' (some b):=by
 have H:Hid (EyeB tEye w b (s.extract k s.size) e):=Lib.hid h
 unfold EyeAt
 clear h
 generalize s.extract k s.size=r at *
 have c1:=H.out.c1
 have f1:=H.out.free 1
 have HG:=Lib.hid (grown_set w b 1 (.int .i64 f))
 by_cases h0:e=0
 ·have hq:(e==0)=true:=by rw [beq_iff_eq];exact h0
  have HN:=Lib.hid (note_ok (f:=f) h0)
  clear h0
  go_enter Tryz.func169,Tryz.ntmps169
  go_wp2
  go_end0
  rw [HN.out]
  exact ⟨rfl,H.out.err _,HG.out⟩
 ·have hq:(e==0)=false:=by rw [beq_eq_false_iff_ne];exact h0
  have HN:=Lib.hid (note_bad (f:=f) h0)
  clear h0
  go_enter Tryz.func169,Tryz.ntmps169
  go_wp2
  go_end0
  rw [HN.out]
  exact ⟨rfl,H.out,grown_refl _ _⟩
set_option maxRecDepth 100000 in
theorem EyeText_any (b : Nat) (s : ByteArray) (k n : Nat) (wh : Bool) (e : Int) (w : World) (h : EyeAt tEye w b s k e) (hk : k + n ≤ s.size) (hs : s.size ≤ 1000) :
 Calls Tryz.prog 166 #[.pointer (some ⟨b,0,none⟩),.int .i64 n,.bool wh] w fun x w'=>x = .returned (.string (fieldOf (s.extract k (k+n)) wh).1)/\EyeAt tEye w' b s (k+n) (note e (fieldOf (s.extract k (k+n)) wh).2)/\w.grownBy w' (some b):=by
 have HT:=Lib.hid (fun w h=>Take_any b s k n e w h hk hs)
 have HF:=Lib.hid (fun w=>FieldRead_any (s.extract k (k+n)) wh w (by unfold maxLen;simp;omega))
 have HN:=Lib.hid (fun w f h=>Note_any b s (k+n) e f w h)
 have H:=Lib.hid h
 clear h
 generalize fieldOf (s.extract k (k+n)) wh=p at *
 obtain ⟨p1,p2⟩:=p
 go_enter Tryz.func166,Tryz.ntmps166
 go_wp2_with fail
 refine (HT.out _ H.out).mono ?_
 rintro x w1 ⟨rfl,h1,g1⟩
 have H1:=Lib.hid h1
 have G1:=Lib.hid g1
 clear h1 g1
 go_wp2_with fail
 refine (HF.out _).mono ?_
 rintro x w2 ⟨rfl,hb⟩
 have H2:=Lib.hid (EyeB.below H1.out hb)
 have G2:=Lib.hid (grown_trans G1.out (grown_below hb))
 clear hb
 go_wp2_with fail
 refine (HN.out _ _ H2.out).mono ?_
 rintro x w3 ⟨rfl,h1,g1⟩
 have H3:=Lib.hid h1
 have G3:=Lib.hid (grown_trans G2.out g1)
 clear h1 g1
 go_wp2
 go_ret
 exact ⟨rfl,H3.out,G3.out⟩
set_option maxRecDepth 100000 in
theorem EyeNum_any (b : Nat) (s : ByteArray) (k n : Nat) (e : Int) (w : World) (h : EyeAt tEye w b s k e) (hk : k + n ≤ s.size) (hs : s.size ≤ 1000) :
 Calls Tryz.prog 167 #[.pointer (some ⟨b,0,none⟩),.int .i64 n] w fun x w'=>x = .returned (.int .i64 (octOf (s.extract k (k+n))).1)/\EyeAt tEye w' b s (k+n) (note e (octOf (s.extract k (k+n))).2)/\w.grownBy w' (some b):=by
 have HT:=Lib.hid (fun w h=>Take_any b s k n e w h hk hs)
 have HF:=Lib.hid (fun w=>OctRead_any (s.extract k (k+n)) w (by unfold maxLen;simp;omega))
 have HN:=Lib.hid (fun w f h=>Note_any b s (k+n) e f w h)
 have H:=Lib.hid h
 clear h
 generalize octOf (s.extract k (k+n))=p at *
 obtain ⟨p1,p2⟩:=p
 go_enter Tryz.func167,Tryz.ntmps167
 go_wp2_with fail
 refine (HT.out _ H.out).mono ?_
 rintro x w1 ⟨rfl,h1,g1⟩
 have H1:=Lib.hid h1
 have G1:=Lib.hid g1
 clear h1 g1
 go_wp2_with fail
 refine (HF.out _).mono ?_
 rintro x w2 ⟨rfl,rfl⟩
 go_wp2_with fail
 refine (HN.out _ _ H1.out).mono ?_
 rintro x w3 ⟨rfl,h1,g1⟩
 have H3:=Lib.hid h1
 have G3:=Lib.hid (grown_trans G1.out g1)
 clear h1 g1
 go_wp2
 go_ret
 exact ⟨rfl,H3.out,G3.out⟩
set_option maxRecDepth 100000 in
theorem EyeJust_any (b : Nat) (s t : ByteArray) (k n : Nat) (e : Int) (w : World) (h : EyeAt tEye w b s k e) (hn : t.size = n) (hk : k + n ≤ s.size) (hs : s.size ≤ 1000) :
 Calls Tryz.prog 170 #[.pointer (some ⟨b,0,none⟩),.string t] w fun x w'=>x = .returned (.tuple #[])/\EyeAt tEye w' b s (k+n) (note e (justE s k (k+n) t))/\w.grownBy w' (some b):=by
 have HT:=Lib.hid (fun w h=>Take_any b s k n e w h hk hs)
 have HN:=Lib.hid (fun w f h=>Note_any b s (k+n) e f w h)
 have H:=Lib.hid h
 have hn':=hn
 clear h
 by_cases he:s.extract k (k+n)=t
 ·have hq:=seq_t he
  have HJ:=Lib.hid (show note e (justE s k (k+n) t)=e by
   unfold justE note;rw [if_pos he];split<;>omega)
  clear he
  go_enter Tryz.func170,Tryz.ntmps170
  go_wp2_with fail
  refine (HT.out _ H.out).mono ?_
  rintro x w1 ⟨rfl,h1,g1⟩
  have H1:=Lib.hid h1
  have G1:=Lib.hid g1
  clear h1 g1
  go_wp2
  go_end0
  rw [HJ.out]
  exact ⟨rfl,H1.out,G1.out⟩
 ·have hq:=seq_f he
  have HJ:=Lib.hid (show justE s k (k+n) t=3 by unfold justE;rw [if_neg he])
  clear he
  go_enter Tryz.func170,Tryz.ntmps170
  go_wp2_with fail
  refine (HT.out _ H.out).mono ?_
  rintro x w1 ⟨rfl,h1,g1⟩
  have H1:=Lib.hid h1
  have G1:=Lib.hid g1
  clear h1 g1
  go_wp2_with fail
  refine (HN.out _ _ H1.out).mono ?_
  rintro x w3 ⟨rfl,h1,g1⟩
  have H3:=Lib.hid h1
  have G3:=Lib.hid (grown_trans G1.out g1)
  clear h1 g1
  go_wp2
  go_end0
  rw [HJ.out]
  exact ⟨rfl,H3.out,G3.out⟩
end Go.Proofs.YtaffgndickdbiaaGreatDoor
