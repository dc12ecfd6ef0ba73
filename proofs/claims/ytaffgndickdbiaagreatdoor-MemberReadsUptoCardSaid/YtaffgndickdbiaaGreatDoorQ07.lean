/-
  Texts: IndexAny, IndexAnyL, Rec, RecMath, RecW, PaxSpec.
-/
import Derived.Test.YtaffgndickdbiaaGreatDoorQ06
set_option linter.unusedVariables false
set_option linter.unusedSimpArgs false
set_option linter.unusedSectionVars false
namespace Go.Creel
open Go.RowKit
theorem below_iterAt {B k q : Nat} {w wr : World} {s : ByteArray} (h : Below B w wr) (hk : B ≤ k) : Below B w (wr.iterAt k s q) := by
 refine ⟨h.os,h.tape,h.output,by simp [World.iterAt];exact h.size,fun b hb=>?_⟩
 have:(wr.iterAt k s q).heap[b]?=wr.heap[b]?:=by
  simp only [World.iterAt]
  rw [Array.getElem?_setIfInBounds_ne (by omega)]
 rw [this];exact h.block b hb
def NoSign (s : ByteArray) (p : Nat) : Prop := p ≤ s.size ∧ ∀ j,j < p → byt s j ≠ 61 ∧ byt s j ≠ 10
theorem NoSign.next {s : ByteArray} {p : Nat} (h : NoSign s p) (hp : p < s.size) (hx : byt s p ≠ 61 ∧ byt s p ≠ 10) : p < p + (Utf8.decode s p).2 ∧ NoSign s (p + (Utf8.decode s p).2) := by
 have hn:1<=(Utf8.decode s p).2:=by
  by_cases h128:(s[p]'hp).toNat<128
  ·rw [decode_ascii s p hp h128];exact Nat.le_refl _
  ·exact (decode_high s p hp (by omega)).2
 have hsk:=decode_skips s p
 generalize (Utf8.decode s p).2=n at *
 refine ⟨by omega,?_,fun j hj=>?_⟩
 ·by_cases h1:n=1
  ·omega
  ·have:=(hsk (n-1) (by omega) (by omega)).1;omega
 ·rcases Nat.lt_trichotomy j p with e|e|e
  ·exact h.2 j e
  ·rw [e];exact hx
  ·obtain ⟨k,rfl⟩:∃ k,j=p+k:=⟨j-p,by omega⟩
   have:=(hsk k (by omega) (by omega)).2
   omega
end Go.Creel
namespace Go.Proofs.YtaffgndickdbiaaGreatDoor
open Go.Creel Go.RowKit
theorem ascii_idx {x : Nat} (hx : x < 128) : decide (0 ≤ firstIdx ⟨#[61,10]⟩ ((x : Int).toNat.toUInt8)) = (decide (x = 61) || decide (x = 10)) := by
 rw [idx_has]
 unfold hasB
 have e:((x:Int).toNat.toUInt8).toNat=x:=by simp;omega
 have key:∀ c:UInt8,(c==(x:Int).toNat.toUInt8)=decide (x=c.toNat):=by
  intro c
  rw [Bool.eq_iff_iff,beq_iff_eq,decide_eq_true_eq]
  constructor
  ·intro h;rw [h,e]
  ·intro h;exact UInt8.toNat_inj.1 (by rw [e];exact h.symm)
 simp only [List.any_cons,List.any_nil,key,Bool.or_false]
 rfl
theorem UseSet_any (n : Int) (w : World) :
 Calls Tryz.prog 237 #[.int .i64 n] w fun e w'=>e = .returned (.bool (decide (8<n)))/\w=w':=by
 go_enter Tryz.func237,Tryz.ntmps237
 go_wp2
 go_ret
 exact ⟨rfl,rfl⟩
set_option maxRecDepth 100000 in
set_option maxHeartbeats 2000000 in
theorem IndexAny_short (s : ByteArray) (w : World) (h8 : s.size ≤ 8) :
 Calls Tryz.prog 222 #[.string s,.string ⟨#[61,10]⟩] w (RetIdx w (keyBad s)):=by
 have h8z:decide ((8:Int)<(s.size:Int))=false:=decide_eq_false (by omega)
 have HYES:=Lib.hid (fun k hk e=>keyBad_yes (s:=s) (k:=k) hk e)
 have HNO:=Lib.hid (keyBad_no (s:=s))
 go_enter Tryz.func222,Tryz.ntmps222
 go_wp2_with (go_at_call 237;refine (UseSet_any _ _).mono ?_;rintro e w' ⟨rfl,rfl⟩;rw [h8z])
 go_loopg [9,10] s.size (fun g _ _ wx=>∃ p:Nat,s.size<=p+g/\Hid (wx.heap[w.heap.size]?=some (.stringIter s p))/\Hid (Below w.heap.size w wx)/\Hid (NoSign s p))
 case atStart=>exact ⟨0,by omega,Lib.hid (World.iter_heap w s 0),Lib.hid ((Below.refl _ _).alloc (Nat.le_refl _) _),Lib.hid ⟨by omega,fun j hj=>absurd hj (by omega)⟩⟩
 case round =>
  obtain ⟨p,hpg,HIT,HB,HS⟩:=hrel
  by_cases hlt:p<s.size
  ·obtain ⟨g,rfl⟩:∃ g,gk=g+1:=⟨gk-1,by omega⟩
   have hnx:∀ ty,(Instr.next (.pointer (some ⟨w.heap.size,0,none⟩)) true ty).run Tryz.prog wr=_:=fun ty=>Lib.run_next_any_at wr w.heap.size s p ty HIT.out hlt
   have HNX:=Lib.hid (fun hx=>HS.out.next hlt hx)
   have HHIT:=Lib.hid (fun e=>HYES.out p hlt e)
   have HI2:=Lib.hid (fun q=>Lib.iterAt_heap wr w.heap.size s p q HIT.out)
   have HB2:=Lib.hid (fun q=>below_iterAt (q:=q) (s:=s) HB.out (Nat.le_refl _))
   by_cases h128:(s[p]'hlt).toNat<128
   ·have hdec:=decode_ascii s p hlt h128
    have hby:=byt_get s p hlt
    rw [hdec] at hnx HNX
    rw [hby] at hnx h128
    have HR:=Lib.hid (fun w=>Rune_asc ((byt s p:Nat):Int) w (by omega) (by omega))
    have HAI:=Lib.hid (ascii_idx h128)
    clear hdec hby HIT
    generalize byt s p=x at *
    generalize firstIdx ⟨#[61,10]⟩ ((x:Int).toNat.toUInt8)=m at *
    simp only at hnx HNX
    go_wp2_with fail
    refine (HR.out _).mono ?_
    rintro e w3 ⟨rfl,hb⟩
    have HB3:=Lib.hid ((HB2.out _).trans (hb.mono (HB2.out _).size))
    have HI3:=Lib.hid ((hb.block w.heap.size (Array.getElem?_eq_some_iff.1 (HI2.out (p+1))).1).trans (HI2.out (p+1)))
    clear hb hnx
    by_cases hx:x=61\/x=10
    ·have HK:=Lib.hid (HHIT.out hx)
     have hd:decide (0<=m)=true:=by rw [HAI.out];simpa using hx
     clear hx
     go_wp2
     go_ret
     exact ⟨_,rfl,by rw [HK.out];simp,HB3.out⟩
    ·have HN:=Lib.hid (HNX.out ⟨fun e=>hx (.inl e),fun e=>hx (.inr e)⟩)
     have hd:decide (0<=m)=false:=by rw [HAI.out];simpa using hx
     clear hx
     go_wp2
     go_roundg g
     case measure=>omega
     case rel=>exact ⟨p+1,by omega,HI3,HB3,Lib.hid HN.out.2⟩
   ·obtain ⟨hr1,hr2⟩:=decode_high s p hlt (by omega)
    have hr3:=decode_le s p
    have hby:=byt_get s p hlt
    have HN:=Lib.hid (HNX.out (by rw [<-hby];omega))
    have HR:=Lib.hid (fun w=>Rune_high (((Utf8.decode s p).1:Nat):Int) w (by omega) (by omega))
    clear hby HIT HNX HHIT
    generalize Utf8.decode s p=d at *
    obtain ⟨d1,d2⟩:=d
    simp only at hnx HN hr1 hr2 hr3 HR
    have hpd:s.size<=p+d2+g:=by omega
    go_wp2_with fail
    refine (HR.out _).mono ?_
    rintro e w3 ⟨rfl,hb⟩
    have HB3:=Lib.hid ((HB2.out _).trans (hb.mono (HB2.out _).size))
    have HI3:=Lib.hid ((hb.block w.heap.size (Array.getElem?_eq_some_iff.1 (HI2.out (p+d2))).1).trans (HI2.out (p+d2)))
    clear hb hnx
    go_wp2
    go_roundg g
    case measure=>omega
    case rel=>exact ⟨p+d2,by omega,HI3,HB3,Lib.hid HN.out.2⟩
  ·have HK:=Lib.hid (HNO.out (fun k hk=>HS.out.2 k (by omega)))
   have hnx:∀ ty,(Instr.next (.pointer (some ⟨w.heap.size,0,none⟩)) true ty).run Tryz.prog wr=_:=fun ty=>Lib.run_next_end_at wr w.heap.size s p ty HIT.out hlt
   go_wp2
   go_ret
   exact ⟨_,rfl,by rw [HK.out];rfl,HB.out⟩
end Go.Proofs.YtaffgndickdbiaaGreatDoor
namespace Go.Creel
open Go.RowKit
theorem indexAny_bad : ∀ l : List UInt8,decide (0 ≤ Lib.indexAny l [61,10]) = l.any (fun b => b == 61 || b == 10)
 | []=>rfl
 | b::l=>by
   have ih:=indexAny_bad l
   have hge:=Lib.indexAny_ge [61,10] l
   unfold Lib.indexAny
   have hc:([61,10]:List UInt8).contains b=(b==61||b==10):=by simp [List.contains,List.elem];cases (b==61)<;>cases (b==10)<;>rfl
   rw [hc,List.any_cons]
   cases hb:(b==61||b==10) with
   | true=>simp
   | false =>
     rw [Bool.false_or,<-ih]
     by_cases h1:Lib.indexAny l [61,10] = -1
     ·simp [h1]
     ·have:(Lib.indexAny l [61,10] == -1)=false:=by rw [beq_eq_false_iff_ne];exact h1
      rw [if_neg (by simp),if_neg (by rw [this];simp)]
      exact decide_eq_decide.2 ⟨fun h=>by omega,fun h=>by omega⟩
theorem any_keyBad (s : ByteArray) : s.data.toList.any (fun b => b == 61 || b == 10) = keyBad s := by
 unfold keyBad hasB
 induction s.data.toList with
 | nil=>rfl
 | cons b l ih=>simp only [List.any_cons,ih];cases b==61<;>cases b==10<;>simp
end Go.Creel
namespace Go.Proofs.YtaffgndickdbiaaGreatDoor
open Go.Creel Go.RowKit
theorem ascii_chars : ∀ (j : Nat) b,(ByteArray.mk #[61,10]).data.toList[j]? = some b → b.toNat < 128 := by
 intro j b h
 have:j=0\/j=1\/2<=j:=by omega
 rcases this with rfl|rfl|hj
 ·cases h;decide
 ·cases h;decide
 ·have:(ByteArray.mk #[61,10]).data.toList[j]?=none:=List.getElem?_eq_none (by show 2<=j;exact hj)
  rw [this] at h;cases h
theorem IndexAny_any (s : ByteArray) (w : World) (hs : s.size ≤ 4000000000) :
 Calls Tryz.prog 222 #[.string s,.string ⟨#[61,10]⟩] w (RetIdx w (keyBad s)):=by
 by_cases h8:s.size<=8
 ·exact IndexAny_short s w h8
 ·refine (Tryz.strings_IndexAny_long (fun w=>by kernel_rfl) s ⟨#[61,10]⟩ w (show 2<=2 by omega) (by omega) (by omega) (show 2<4294967281 by omega) ascii_chars).mono ?_
  rintro e w' ⟨rfl,rfl⟩
  exact ⟨_,rfl,(indexAny_bad _).trans (any_keyBad s),((Below.refl _ _).alloc (Nat.le_refl _) _).alloc (by simp) _⟩
set_option maxRecDepth 100000 in
theorem ContainsAny_any (s : ByteArray) (w : World) (hs : s.size ≤ 4000000000) :
 Calls Tryz.prog 200 #[.string s,.string ⟨#[61,10]⟩] w fun e w'=>e = .returned (.bool (keyBad s))/\Below w.heap.size w w':=by
 have HI:=Lib.hid (IndexAny_any s w hs)
 go_enter Tryz.func200,Tryz.ntmps200
 go_wp2_with fail
 refine HI.out.mono ?_
 rintro e w2 ⟨m,rfl,hm,hb⟩
 have HB:=Lib.hid hb
 clear hb
 go_wp2
 go_ret
 exact ⟨rfl,HB.out⟩
end Go.Proofs.YtaffgndickdbiaaGreatDoor
namespace Go.Creel
def recFault (r : Rec) : Int :=
 if r.key.size<1\/60<r.key.size\/500<r.value.size then 1 else if (keyBad r.key||hasB r.value 0)=true then 3 else 0
def Rec.cells (r : Rec) : Array Go.Value := #[.string r.key,.string r.value]
theorem recFault_one {r : Rec} (h : r.key.size < 1 ∨ 60 < r.key.size ∨ 500 < r.value.size) : recFault r = 1 := by unfold recFault; rw [if_pos h]
theorem recFault_two {r : Rec} (h : ¬ (r.key.size < 1 ∨ 60 < r.key.size ∨ 500 < r.value.size)) (h2 : (keyBad r.key || hasB r.value 0) = true) : recFault r = 3 := by unfold recFault; rw [if_neg h,if_pos h2]
theorem recFault_none {r : Rec} (h : ¬ (r.key.size < 1 ∨ 60 < r.key.size ∨ 500 < r.value.size)) (h2 : (keyBad r.key || hasB r.value 0) = false) : recFault r = 0 := by unfold recFault; rw [if_neg h,if_neg (by rw [h2]; simp)]
theorem recFault_ok {r : Rec} (h : recFault r = 0) : 1 ≤ r.key.size ∧ r.key.size ≤ 60 ∧ r.value.size ≤ 500 ∧ keyBad r.key = false ∧ hasB r.value 0 = false := by
 by_cases h1:r.key.size<1\/60<r.key.size\/500<r.value.size
 ·rw [recFault_one h1] at h;cases h
 ·cases h2:(keyBad r.key||hasB r.value 0) with
  | true=>rw [recFault_two h1 h2] at h;cases h
  | false=>simp only [Bool.or_eq_false_iff] at h2;exact ⟨by omega,by omega,by omega,h2.1,h2.2⟩
end Go.Creel
namespace Go.Proofs.YtaffgndickdbiaaGreatDoor
open Go.Creel Go.RowKit
set_option maxRecDepth 100000 in
set_option maxHeartbeats 1000000 in
theorem RecL_any (r : Rec) (w : World) (hk : r.key.size ≤ maxLen) (hv : r.value.size ≤ maxLen) :
 Calls Tryz.prog 149 #[.agg r.cells] w fun e w'=>e = .returned (.int .i64 (recFault r))/\Below w.heap.size w w':=by
 obtain ⟨key,value⟩:=r
 unfold maxLen at hk hv
 show Calls Tryz.prog 149 #[.agg #[.string key,.string value]] w _
 simp only at hk hv
 by_cases h1:key.size<1\/60<key.size\/500<value.size
 ·have HF:=Lib.hid (recFault_one (r:=⟨key,value⟩) h1)
  by_cases ha:key.size<1
  ·clear h1
   go_enter Tryz.func149,Tryz.ntmps149
   go_wp2
   go_ret
   rw [HF.out]
   exact ⟨rfl,(Below.refl _ _).alloc (Nat.le_refl _) _⟩
  ·by_cases hb:60<key.size
   ·clear h1
    go_enter Tryz.func149,Tryz.ntmps149
    go_wp2
    go_ret
    rw [HF.out]
    exact ⟨rfl,(Below.refl _ _).alloc (Nat.le_refl _) _⟩
   ·have hc:500<value.size:=by omega
    clear h1
    go_enter Tryz.func149,Tryz.ntmps149
    go_wp2
    go_ret
    rw [HF.out]
    exact ⟨rfl,(Below.refl _ _).alloc (Nat.le_refl _) _⟩
 ·have hk1:¬ key.size<1:=by omega
  have hk2:¬ 60<key.size:=by omega
  have hv2:¬ 500<value.size:=by omega
  have hix:=idx_has value 0
  cases hb1:keyBad key with
  | true =>
    have HF:=Lib.hid (recFault_two (r:=⟨key,value⟩) h1 (by simp [hb1]))
    have HA:=Lib.hid (fun W=>by have:=ContainsAny_any key W (by omega);rw [hb1] at this;exact this)
    clear h1 hix hb1
    go_enter Tryz.func149,Tryz.ntmps149
    go_wp2_with fail
    refine (HA.out _).mono ?_
    rintro e w1 ⟨rfl,hb⟩
    have HB:=Lib.hid (((Below.refl _ _).alloc (Nat.le_refl _) _).trans (hb.mono (by simp)))
    clear hb
    go_wp2
    go_ret
    rw [HF.out]
    exact ⟨rfl,HB.out⟩
  | false =>
    have HA:=Lib.hid (fun W=>by have:=ContainsAny_any key W (by omega);rw [hb1] at this;exact this)
    cases hh:hasB value 0 with
    | true =>
      have HF:=Lib.hid (recFault_two (r:=⟨key,value⟩) h1 (by simp [hb1,hh]))
      rw [hh] at hix
      clear h1 hb1 hh
      go_enter Tryz.func149,Tryz.ntmps149
      go_wp2_with fail
      refine (HA.out _).mono ?_
      rintro e w1 ⟨rfl,hb⟩
      have HB:=Lib.hid (((Below.refl _ _).alloc (Nat.le_refl _) _).trans (hb.mono (by simp)))
      obtain ⟨hc,_⟩:=bcell hb
      clear hb
      go_wp2_with (go_at_call 84;refine (IndexByte_any _ _ _).mono ?_;rintro e w' ⟨rfl,rfl⟩)
      go_ret
      rw [HF.out]
      exact ⟨rfl,HB.out⟩
    | false =>
      have HF:=Lib.hid (recFault_none (r:=⟨key,value⟩) h1 (by simp [hb1,hh]))
      rw [hh] at hix
      clear h1 hb1 hh
      go_enter Tryz.func149,Tryz.ntmps149
      go_wp2_with fail
      refine (HA.out _).mono ?_
      rintro e w1 ⟨rfl,hb⟩
      have HB:=Lib.hid (((Below.refl _ _).alloc (Nat.le_refl _) _).trans (hb.mono (by simp)))
      obtain ⟨hc,_⟩:=bcell hb
      clear hb
      go_wp2_with (go_at_call 84;refine (IndexByte_any _ _ _).mono ?_;rintro e w' ⟨rfl,rfl⟩)
      go_ret
      rw [HF.out]
      exact ⟨rfl,HB.out⟩
set_option maxRecDepth 100000 in
set_option maxHeartbeats 1000000 in
theorem RecR_any (r : Rec) (w : World) (hk : r.key.size ≤ maxLen) (hv : r.value.size ≤ maxLen) :
 Calls Tryz.prog 159 #[.agg r.cells] w fun e w'=>e = .returned (.int .i64 (recFault r))/\Below w.heap.size w w':=by
 obtain ⟨key,value⟩:=r
 have hk':=hk
 have hv':=hv
 unfold maxLen at hk hv
 show Calls Tryz.prog 159 #[.agg #[.string key,.string value]] w _
 simp only at hk hv hk' hv'
 have HA:=Lib.hid (fun W=>has_any key 61 61 rfl W hk')
 have HA2:=Lib.hid (fun W=>has_any key 10 10 rfl W hk')
 have HA3:=Lib.hid (fun W=>has_any value 0 0 rfl W hv')
 clear hk' hv'
 by_cases h1:key.size<1\/60<key.size\/500<value.size
 ·have HF:=Lib.hid (recFault_one (r:=⟨key,value⟩) h1)
  by_cases ha:key.size=0
  ·have he:=empty_t ha
   clear h1
   go_enter Tryz.func159,Tryz.ntmps159
   go_wp2
   go_ret
   rw [HF.out]
   exact ⟨rfl,(Below.refl _ _).alloc (Nat.le_refl _) _⟩
  ·have he:=empty_f ha
   by_cases hb:60<key.size
   ·clear h1
    go_enter Tryz.func159,Tryz.ntmps159
    go_wp2
    go_ret
    rw [HF.out]
    exact ⟨rfl,(Below.refl _ _).alloc (Nat.le_refl _) _⟩
   ·have hc:500<value.size:=by omega
    clear h1
    go_enter Tryz.func159,Tryz.ntmps159
    go_wp2
    go_ret
    rw [HF.out]
    exact ⟨rfl,(Below.refl _ _).alloc (Nat.le_refl _) _⟩
 ·have he:=empty_f (a:=key) (by omega)
  have hk2:¬ 60<key.size:=by omega
  have hv2:¬ 500<value.size:=by omega
  cases ha:hasB key 61 with
  | true =>
    have HF:=Lib.hid (recFault_two (r:=⟨key,value⟩) h1 (by simp [keyBad,ha]))
    have HH:=Lib.hid ha
    clear h1 ha
    go_enter Tryz.func159,Tryz.ntmps159
    go_wp2_with (go_at_call 105;refine (HA.out _).mono ?_;rintro e w' ⟨rfl,rfl⟩;rw [HH.out])
    go_ret
    rw [HF.out]
    exact ⟨rfl,(Below.refl _ _).alloc (Nat.le_refl _) _⟩
  | false =>
    cases hb:hasB key 10 with
    | true =>
      have HF:=Lib.hid (recFault_two (r:=⟨key,value⟩) h1 (by simp [keyBad,ha,hb]))
      have HH:=Lib.hid ha
      have HH2:=Lib.hid hb
      clear h1 ha hb
      go_enter Tryz.func159,Tryz.ntmps159
      go_wp2_with fail
      refine (HA.out _).mono ?_
      rintro e w' ⟨rfl,rfl⟩
      rw [HH.out]
      go_wp2_with fail
      refine (HA2.out _).mono ?_
      rintro e w' ⟨rfl,rfl⟩
      rw [HH2.out]
      go_wp2
      go_ret
      rw [HF.out]
      exact ⟨rfl,(Below.refl _ _).alloc (Nat.le_refl _) _⟩
    | false =>
      cases hc:hasB value 0 with
      | true =>
        have HF:=Lib.hid (recFault_two (r:=⟨key,value⟩) h1 (by simp [keyBad,ha,hb,hc]))
        have HH:=Lib.hid ha
        have HH2:=Lib.hid hb
        have HH3:=Lib.hid hc
        clear h1 ha hb hc
        go_enter Tryz.func159,Tryz.ntmps159
        go_wp2_with fail
        refine (HA.out _).mono ?_
        rintro e w' ⟨rfl,rfl⟩
        rw [HH.out]
        go_wp2_with fail
        refine (HA2.out _).mono ?_
        rintro e w' ⟨rfl,rfl⟩
        rw [HH2.out]
        go_wp2_with fail
        refine (HA3.out _).mono ?_
        rintro e w' ⟨rfl,rfl⟩
        rw [HH3.out]
        go_wp2
        go_ret
        rw [HF.out]
        exact ⟨rfl,(Below.refl _ _).alloc (Nat.le_refl _) _⟩
      | false =>
        have HF:=Lib.hid (recFault_none (r:=⟨key,value⟩) h1 (by simp [keyBad,ha,hb,hc]))
        have HH:=Lib.hid ha
        have HH2:=Lib.hid hb
        have HH3:=Lib.hid hc
        clear h1 ha hb hc
        go_enter Tryz.func159,Tryz.ntmps159
        go_wp2_with fail
        refine (HA.out _).mono ?_
        rintro e w' ⟨rfl,rfl⟩
        rw [HH.out]
        go_wp2_with fail
        refine (HA2.out _).mono ?_
        rintro e w' ⟨rfl,rfl⟩
        rw [HH2.out]
        go_wp2_with fail
        refine (HA3.out _).mono ?_
        rintro e w' ⟨rfl,rfl⟩
        rw [HH3.out]
        go_wp2
        go_ret
        rw [HF.out]
        exact ⟨rfl,(Below.refl _ _).alloc (Nat.le_refl _) _⟩
end Go.Proofs.YtaffgndickdbiaaGreatDoor
namespace Go.Creel
def recN (L : Nat) : Nat := if L + 1 < 10 then L + 1 else if L + 2 < 100 then L + 2 else L + 3
theorem dlen_eq (n : Nat) : (Lib.decDigits n).length = Lib.nDigits n := by
 rw [Lib.decDigits_eq];simp
theorem dlen1 {n : Nat} (h : n < 10) : (Lib.decDigits n).length = 1 := by rw [dlen_eq]; exact Lib.nDigits_small h
theorem dlen2 {n : Nat} (h : 10 ≤ n) (h2 : n < 100) : (Lib.decDigits n).length = 2 := by rw [dlen_eq]; exact Lib.nDigits_unique 1 n h h2
theorem dlen3 {n : Nat} (h : 100 ≤ n) (h2 : n < 1000) : (Lib.decDigits n).length = 3 := by rw [dlen_eq]; exact Lib.nDigits_unique 2 n h h2
theorem dlen_cases {n : Nat} (h : n < 1000) : ((Lib.decDigits n).length = 1 ∧ n < 10) ∨ ((Lib.decDigits n).length = 2 ∧ 10 ≤ n ∧ n < 100) ∨ ((Lib.decDigits n).length = 3 ∧ 100 ≤ n) := by
 by_cases h1:n<10
 ·exact .inl ⟨dlen1 h1,h1⟩
 ·by_cases h2:n<100
  ·exact .inr (.inl ⟨dlen2 (by omega) h2,by omega,h2⟩)
  ·exact .inr (.inr ⟨dlen3 (by omega) h,by omega⟩)
theorem recN_cases (L : Nat) : (L + 1 < 10 ∧ recN L = L + 1) ∨ (9 ≤ L ∧ L + 2 < 100 ∧ recN L = L + 2) ∨ (98 ≤ L ∧ recN L = L + 3) := by
 unfold recN
 by_cases h:L+1<10
 ·exact .inl ⟨h,if_pos h⟩
 ·rw [if_neg h]
  by_cases h2:L+2<100
  ·exact .inr (.inl ⟨by omega,h2,if_pos h2⟩)
  ·exact .inr (.inr ⟨by omega,if_neg h2⟩)
theorem recN_bd (L : Nat) : L + 1 ≤ recN L ∧ recN L ≤ L + 3 := by have := recN_cases L; omega
theorem recN_fits {L : Nat} (h : L ≤ 900) : recN L = L + (Lib.decDigits (recN L)).length := by
 have hb:=recN_cases L
 rcases dlen_cases (show recN L<1000 by omega) with ⟨e,h1⟩|⟨e,h1,h2⟩|⟨e,h1⟩<;>rw [e]<;>omega
theorem recN_first {L n : Nat} (h : L ≤ 900) (hn : n < recN L) : n ≠ L + (Lib.decDigits n).length := by
 have hb:=recN_cases L
 rcases dlen_cases (show n<1000 by omega) with ⟨e,h1⟩|⟨e,h1,h2⟩|⟨e,h1⟩<;>rw [e]<;>omega
theorem itoa_nat (n : Nat) : Lib.itoa (n : Int) = Lib.decDigits n := by unfold Lib.itoa; rw [if_neg (by omega),Int.toNat_natCast]
def recTail (r : Rec) : ByteArray := (((ByteArray.mk #[32] ++ r.key) ++ ⟨#[61]⟩) ++ r.value) ++ ⟨#[10]⟩
def recText (r : Rec) : ByteArray := ofL (Lib.decDigits (recN (recTail r).size)) ++ recTail r
def recWrite (r : Rec) : ByteArray × Int := if recFault r = 0 then (recText r,0) else (ByteArray.empty,recFault r)
theorem recWrite_bad {r : Rec} (h : recFault r ≠ 0) : recWrite r = (ByteArray.empty,recFault r) := by unfold recWrite; rw [if_neg h]
theorem recWrite_ok {r : Rec} (h : recFault r = 0) : recWrite r = (recText r,0) := by unfold recWrite; rw [if_pos h]
theorem recTail_size (r : Rec) : (recTail r).size = r.key.size + r.value.size + 3 := by
 unfold recTail
 simp only [ByteArray.size_append]
 show 1+r.key.size+1+r.value.size+1=_
 omega
theorem recFault_small {r : Rec} : recFault r = 0 ∨ recFault r = 1 ∨ recFault r = 3 := by
 unfold recFault
 by_cases h:r.key.size<1\/60<r.key.size\/500<r.value.size
 ·rw [if_pos h];exact .inr (.inl rfl)
 ·rw [if_neg h];split<;>simp
end Go.Creel
namespace Go.Proofs.YtaffgndickdbiaaGreatDoor
open Go.Creel Go.RowKit
theorem ItoaN_any (n : Nat) (w : World) (hn : n ≤ 1000000) (hT : Pow10 w) :
 Calls Tryz.prog 104 #[.int .i64 n] w fun e w'=>e = .returned (.string (ofL (Lib.decDigits n)))/\Below w.heap.size w w':=by
 have:=Itoa_any n w (by constructor<;>omega) hT
 rw [itoa_nat] at this
 exact this
set_option maxRecDepth 100000 in
set_option maxHeartbeats 1000000 in
theorem RecW_any (r : Rec) (w : World) (hk : r.key.size ≤ maxLen) (hv : r.value.size ≤ maxLen) (hT : Pow10 w) :
 Calls Tryz.prog 92 #[.agg r.cells] w fun e w'=>e = .returned (.tuple #[.string (recWrite r).1,.int .i64 (recWrite r).2])/\Below w.heap.size w w':=by
 have HC:=Lib.hid (fun W=>RecL_any r W hk hv)
 have HT:=Lib.hid hT
 clear hT
 have hs:=recFault_small (r:=r)
 by_cases h0:recFault r=0
 ·obtain ⟨_,hk1,hv1,_,_⟩:=recFault_ok h0
  have HF:=Lib.hid (recWrite_ok h0)
  have hts:=recTail_size r
  rw [h0] at HC
  clear h0 hs hk hv
  obtain ⟨key,value⟩:=r
  have HTX:=Lib.hid (show recText ⟨key,value⟩=ofL (Lib.decDigits (recN (recTail ⟨key,value⟩).size))++recTail ⟨key,value⟩ from rfl)
  have htt:(((ByteArray.mk #[32]++key)++⟨#[61]⟩)++value)++⟨#[10]⟩=recTail ⟨key,value⟩:=rfl
  show Calls Tryz.prog 92 #[.agg #[.string key,.string value]] w _
  simp only [Rec.cells] at HC hts hk1 hv1
  go_enter Tryz.func92,Tryz.ntmps92
  go_wp2_with fail
  refine (HC.out _).mono ?_
  rintro e w1 ⟨rfl,hb⟩
  have HB:=Lib.hid (((Below.refl _ _).alloc (Nat.le_refl _) _).trans (hb.mono (by simp)))
  obtain ⟨hc,_⟩:=bcell hb
  clear hb
  go_wp2
  generalize recTail ⟨key,value⟩=t at *
  have HFI:=Lib.hid (recN_fits (L:=t.size) (by omega))
  have HFS:=Lib.hid (fun n=>recN_first (L:=t.size) (n:=n) (by omega))
  have HBD:=Lib.hid (recN_bd t.size)
  go_loopw [6] (fun v wr=>∃ n:Nat,v = .int .i64 n/\t.size+1<=n/\n<=recN t.size/\Hid (Below w.heap.size w wr)) (fun v _=>1000-(intOf v).toNat)
  case atStart=>exact ⟨t.size+1,by simp [hts],by omega,by have:=HBD.out;omega,HB⟩
  case round =>
   obtain ⟨n,rfl,hn1,hn2,HBR⟩:=hrel
   have hbd:=HBD.out
   have HI:=Lib.hid (ItoaN_any n wr (by omega) (HT.out.below HBR.out))
   have hsz:=ofL_size (Lib.decDigits n)
   have hdl:(Lib.decDigits n).length<=3:=by have:=dlen_cases (n:=n) (by omega);omega
   have hts2:t.size=key.size+value.size+3:=hts
   by_cases hd:n=t.size+(Lib.decDigits n).length
   ·have hn:n=recN t.size:=by
     rcases Nat.lt_or_ge n (recN t.size) with h|h
     ·exact absurd hd (HFS.out n h)
     ·omega
    have HR:=Lib.hid (show recWrite ⟨key,value⟩=(ofL (Lib.decDigits n)++t,0) by rw [HF.out,HTX.out,hn])
    have HI2:=Lib.hid (fun (m:Int) W (hm:m=n) hW=>by have:=ItoaN_any n W (by omega) hW;rw [<-hm] at this;exact this)
    generalize ofL (Lib.decDigits n)=x at *
    generalize (Lib.decDigits n).length=d at *
    clear hn HFI HFS HTX HF htt
    go_wp2_with fail
    refine (HI2.out _ _ (by omega) (HT.out.below HBR.out)).mono ?_
    rintro e w3 ⟨rfl,hb⟩
    have HB3:=Lib.hid (HBR.out.trans (hb.mono HBR.out.size))
    clear hb
    go_wp2_with fail
    refine (HI2.out _ _ (by omega) (HT.out.below HB3.out)).mono ?_
    rintro e w4 ⟨rfl,hb⟩
    have HB4:=Lib.hid (HB3.out.trans (hb.mono HB3.out.size))
    clear hb
    go_wp2
    go_ret2
    exact ⟨ret_si HR.out,HB4.out⟩
   ·have hn:n<recN t.size:=by
     have hne:n≠recN t.size:=by intro e;exact hd (by rw [e];exact HFI.out)
     omega
    generalize ofL (Lib.decDigits n)=x at *
    generalize (Lib.decDigits n).length=d at *
    have hd2:¬ n=key.size+value.size+3+d:=by omega
    clear HFI HFS HTX HF htt
    go_wp2_with fail
    refine HI.out.mono ?_
    rintro e w3 ⟨rfl,hb⟩
    have HB3:=Lib.hid (HBR.out.trans (hb.mono HBR.out.size))
    clear hb
    go_wp2
    go_roundw
    ·exact ⟨n+1,by simp,by omega,by omega,HB3⟩
    ·simp only [intOf];omega
 ·have HF:=Lib.hid (recWrite_bad h0)
  clear hk hv
  generalize recFault r=f at *
  obtain ⟨key,value⟩:=r
  show Calls Tryz.prog 92 #[.agg #[.string key,.string value]] w _
  simp only [Rec.cells] at HC
  go_enter Tryz.func92,Tryz.ntmps92
  go_wp2_with fail
  refine (HC.out _).mono ?_
  rintro e w1 ⟨rfl,hb⟩
  have HB:=Lib.hid (((Below.refl _ _).alloc (Nat.le_refl _) _).trans (hb.mono (by simp)))
  clear hb
  go_wp2
  go_ret2
  exact ⟨ret_si HF.out,HB.out⟩
end Go.Proofs.YtaffgndickdbiaaGreatDoor
namespace Go.Creel
open Go.RowKit
def firstF (step : Nat → Int) : Nat → Int
 | 0=>0
 | n+1=>if firstF step n=0 then step n else firstF step n
theorem firstF_ok {step : Nat → Int} : ∀ {n : Nat},(∀ j,j < n → step j = 0) → firstF step n = 0
 | 0,_=>rfl
 | n+1,h=>by
   have ih:=firstF_ok (n:=n) (fun j hj=>h j (by omega))
   simp only [firstF]
   rw [if_pos ih]
   exact h n (by omega)
theorem firstF_at {step : Nat → Int} {k : Nat} (hz : ∀ j,j < k → step j = 0) (hne : step k ≠ 0) : ∀ {n : Nat},k < n → firstF step n = step k
 | 0,h=>absurd h (by omega)
 | n+1,h=>by
   simp only [firstF]
   by_cases e:k=n
   ·subst e
    rw [if_pos (firstF_ok hz)]
   ·have ih:=firstF_at hz hne (n:=n) (by omega)
    rw [if_neg (by rw [ih];exact hne),ih]
theorem firstF_all {step : Nat → Int} : ∀ {n : Nat},firstF step n = 0 → ∀ j,j < n → step j = 0
 | 0,_,j,hj=>absurd hj (by omega)
 | n+1,h,j,hj=>by
   simp only [firstF] at h
   by_cases e:firstF step n=0
   ·rw [if_pos e] at h
    by_cases ej:j=n
    ·rw [ej];exact h
    ·exact firstF_all e j (by omega)
   ·rw [if_neg e] at h;exact absurd h e
def leS (a b : ByteArray) : Bool := Op.bytesLess a.toList b.toList || a.toList == b.toList
theorem leS_a {a b : ByteArray} (h : Op.bytesLess a.toList b.toList = true) : leS a b = true := by unfold leS; rw [h]; rfl
theorem leS_b {a b : ByteArray} (h : (a.toList == b.toList) = true) : leS a b = true := by unfold leS; rw [h]; simp
theorem leS_c {a b : ByteArray} (h : Op.bytesLess a.toList b.toList = false) (h2 : (a.toList == b.toList) = false) : leS a b = false := by unfold leS; rw [h,h2]; rfl
theorem leS_empty {a : ByteArray} (h : 1 ≤ a.size) : Op.bytesLess a.toList [] = false ∧ a.toList.isEmpty = false := by
 have hl:a.toList.length=a.size:=by rw [Lib.toList_data];exact (Lib.size_eq a).symm
 cases hh:a.toList with
 | nil=>rw [hh] at hl;simp at hl;omega
 | cons x r=>exact ⟨rfl,rfl⟩
def stepP (l : List Rec) (k : Nat) : Int :=
 if recFault (rk l k)≠0 then recFault (rk l k) else if 0<k/\leS (rk l k).key (rk l (k-1)).key=true then 6 else 0
def paxFault (l : List Rec) : Int := if 12 < l.length then 1 else firstF (stepP l) l.length
def paxBytes (l : List Rec) : List UInt8 := (l.map fun r => (recText r).data.toList).flatten
def paxWrite (l : List Rec) : ByteArray × Int := if paxFault l = 0 then (ofL (paxBytes l),0) else (ByteArray.empty,paxFault l)
theorem paxWrite_bad {l : List Rec} (h : paxFault l ≠ 0) : paxWrite l = (ByteArray.empty,paxFault l) := by unfold paxWrite; rw [if_neg h]
theorem paxWrite_ok {l : List Rec} (h : paxFault l = 0) : paxWrite l = (ofL (paxBytes l),0) := by unfold paxWrite; rw [if_pos h]
theorem paxFault_many {l : List Rec} (h : 12 < l.length) : paxFault l = 1 := by unfold paxFault; rw [if_pos h]
theorem paxFault_at {l : List Rec} {k : Nat} {e : Int} (hl : l.length ≤ 12) (hk : k < l.length) (hz : ∀ j,j < k → stepP l j = 0) (he : stepP l k = e) (hne : e ≠ 0) : paxFault l = e := by
 unfold paxFault;rw [if_neg (by omega),firstF_at hz (by rw [he];exact hne) hk,he]
theorem paxFault_ok {l : List Rec} (hl : l.length ≤ 12) (hz : ∀ j,j < l.length → stepP l j = 0) : paxFault l = 0 := by
 unfold paxFault;rw [if_neg (by omega),firstF_ok hz]
theorem paxFault_all {l : List Rec} (h : paxFault l = 0) : l.length ≤ 12 ∧ ∀ k,k < l.length → stepP l k = 0 := by
 have hl:l.length<=12:=by
  rcases Nat.lt_or_ge 12 l.length with e|e
  ·rw [paxFault_many e] at h;cases h
  ·exact e
 refine ⟨hl,?_⟩
 unfold paxFault at h
 rw [if_neg (by omega)] at h
 exact firstF_all h
theorem stepP_rec {l : List Rec} {k : Nat} {e : Int} (he : recFault (rk l k) = e) (h : e ≠ 0) : stepP l k = e := by unfold stepP; rw [if_pos (by rw [he]; exact h),he]
theorem stepP_le {l : List Rec} {k : Nat} (h : recFault (rk l k) = 0) (h0 : 0 < k) (h1 : leS (rk l k).key (rk l (k - 1)).key = true) : stepP l k = 6 := by unfold stepP; rw [if_neg (by rw [h]; simp),if_pos ⟨h0,h1⟩]
theorem stepP_ok {l : List Rec} {k : Nat} (h : recFault (rk l k) = 0) (h0 : 0 < k → leS (rk l k).key (rk l (k - 1)).key = false) : stepP l k = 0 := by
 unfold stepP
 rw [if_neg (by rw [h];simp),if_neg]
 rintro ⟨a,b⟩
 rw [h0 a] at b;cases b
theorem stepP_zero {l : List Rec} {k : Nat} (h : stepP l k = 0) : recFault (rk l k) = 0 := by
 unfold stepP at h
 by_cases e:recFault (rk l k)=0
 ·exact e
 ·rw [if_pos e] at h;exact h
theorem rk_drop {l : List Rec} {k : Nat} (h : k < l.length) : l.drop k = rk l k :: l.drop (k + 1) := by
 rw [List.drop_eq_getElem_cons h]
 simp [rk,List.getD_eq_getElem?_getD,List.getElem?_eq_getElem h]
theorem rk_take {l : List Rec} {k : Nat} (h : k < l.length) : l.take (k + 1) = l.take k ++ [rk l k] := by
 rw [List.take_add_one,List.getElem?_eq_getElem h]
 simp [rk,List.getD_eq_getElem?_getD,List.getElem?_eq_getElem h]
theorem paxBytes_take {l : List Rec} {k : Nat} (h : k < l.length) : paxBytes (l.take (k + 1)) = paxBytes (l.take k) ++ (recText (rk l k)).data.toList := by
 rw [rk_take h];simp [paxBytes]
theorem paxBytes_drop {l : List Rec} {k : Nat} (h : k < l.length) : ofL (paxBytes (l.drop k)) = recText (rk l k) ++ ofL (paxBytes (l.drop (k + 1))) := by
 rw [rk_drop h]
 apply ext_bytes
 simp [paxBytes,ofL]
theorem recText_size {r : Rec} (h : recFault r = 0) : (recText r).size ≤ 566 := by
 obtain ⟨_,h1,h2,_⟩:=recFault_ok h
 have ht:=recTail_size r
 have hb:=recN_bd (recTail r).size
 have:=dlen_cases (n:=recN (recTail r).size) (by omega)
 unfold recText
 rw [ByteArray.size_append,ofL_size]
 omega
theorem paxBytes_le {l : List Rec} (h : ∀ r ∈ l,recFault r = 0) : (paxBytes l).length ≤ 566 * l.length := by
 induction l with
 | nil=>simp [paxBytes]
 | cons a t ih =>
   have h1:=recText_size (h a (by simp))
   have h2:=ih (fun r hr=>h r (by simp [hr]))
   have:(recText a).data.toList.length=(recText a).size:=(Lib.size_eq _).symm
   simp only [paxBytes,List.map_cons,List.flatten_cons,List.length_append,List.length_cons] at h2 ⊢
   omega
theorem pax_all {l : List Rec} (h : paxFault l = 0) : ∀ r ∈ l,recFault r = 0 := by
 intro r hr
 obtain ⟨k,hk,rfl⟩:=List.getElem_of_mem hr
 have:=stepP_zero ((paxFault_all h).2 k hk)
 simpa [rk,List.getD_eq_getElem?_getD,List.getElem?_eq_getElem hk] using this
end Go.Creel
