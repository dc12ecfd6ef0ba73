/-
  Texts: HeadRd, BytesCut.
-/
import Derived.Test.YtaffgndickdbiaaGreatDoorQ12
set_option linter.unusedVariables false
set_option linter.unusedSimpArgs false
set_option linter.unusedSectionVars false
namespace Go.Creel
open Go.RowKit
structure ReadSt (te th : TypeId) (w0 w : World) (s : ByteArray) (b1 b2 k : Nat) (e : Int) (n : HeadN) : Prop where
 eye:EyeAt te w b1 s k e
 head:w.heap[b2]?=some (.cells n.cells.toArray th (0,0))
 res:w.heap[w0.heap.size]?=some (.cells headNone.cells.toArray th (0,0))
 below:Below w0.heap.size w0 w
 lt1:w0.heap.size<b1
 lt2:b1<b2
variable {te th : TypeId} {w0 w w' : World} {s : ByteArray} {b1 b2 k k' : Nat} {e e' : Int} {n n' : HeadN}
theorem ReadSt.eyed (h : ReadSt te th w0 w s b1 b2 k e n) (he : EyeAt te w' b1 s k' e') (hg : w.grownBy w' (some b1)) : ReadSt te th w0 w' s b1 b2 k' e' n := by
 have h1:=h.lt1
 have h2:=h.lt2
 have l2:b2<w.heap.size:=(Array.getElem?_eq_some_iff.1 h.head).1
 exact ⟨he,(hg.block b2 l2 (by simp;omega)).trans h.head,(hg.block _ (by omega) (by simp;omega)).trans h.res,h.below.grown hg h.below.size (fun j hj=>by cases hj;omega),h1,h2⟩
theorem ReadSt.put (h : ReadSt te th w0 w s b1 b2 k e n) (j : Nat) (u : Value) (hn : n'.cells = n.cells.set j u) : ReadSt te th w0 (w.setCell ⟨b2,j,none⟩ u) s b1 b2 k e n' := by
 have h1:=h.lt1
 have h2:=h.lt2
 refine ⟨?_,?_,?_,h.below.setCell (p:=⟨b2,j,none⟩) (by show w0.heap.size<=b2;omega) u,h1,h2⟩
 ·show (w.setCell ⟨b2,j,none⟩ u).heap[b1]?=_
  rw [heap_setCell_other w ⟨b2,j,none⟩ b1 u (by show b1≠b2;omega)]
  exact h.eye
 ·rw [heap_setCell_same w b2 j _ th _ h.head,hn]
  simp
 ·rw [heap_setCell_other w ⟨b2,j,none⟩ _ u (by show w0.heap.size≠b2;omega)]
  exact h.res
theorem EyeAt.made (w : World) (z : Obj) (s : ByteArray) : EyeAt te ((w.alloc z).alloc (.cells #[.string s,.int .i64 0] te)) (w.heap.size + 1) s 0 0 := by
 have e:s.extract 0 s.size=s:=by
  apply ext_bytes
  rw [Lib.extract_data,List.drop_zero,Nat.sub_zero]
  exact List.take_of_length_le (by simp)
 unfold EyeAt EyeB
 rw [e]
 have:=heap_alloc_new (w.alloc z) (.cells #[.string s,.int .i64 0] te)
 have hs:(w.alloc z).heap.size=w.heap.size+1:=by simp
 rw [hs] at this
 exact this
theorem ReadSt.made {w4 : World} {y : Array Value} (he : EyeAt te w4 (w.heap.size + 1) s k e) (hg : ((w.alloc (.cells headNone.cells.toArray th)).alloc (.cells y te)).grownBy w4 (some (w.heap.size + 1))) : ReadSt te th w (w4.alloc (.cells n.cells.toArray th)) s (w.heap.size + 1) w4.heap.size k e n := by
 have hsz:=hg.size
 simp at hsz
 have h1:Below w.heap.size w ((w.alloc (.cells headNone.cells.toArray th)).alloc (.cells y te)):=((Below.refl _ _).alloc (Nat.le_refl _) _).alloc (by simp) _
 have h4:Below w.heap.size w w4:=h1.grown hg (by simp;omega) (fun j hj=>by cases hj;omega)
 have hb:Below w4.heap.size w4 (w4.alloc (.cells n.cells.toArray th)):=(Below.refl _ _).alloc (Nat.le_refl _) _
 have hr:w4.heap[w.heap.size]?=some (.cells headNone.cells.toArray th (0,0)):=by
  rw [hg.block w.heap.size (by simp;omega) (by simp)]
  rw [heap_alloc_old _ _ (by simp)]
  exact heap_alloc_new w _
 refine ⟨EyeB.below he hb,heap_alloc_new w4 _,(hb.block _ (by omega)).trans hr,h4.alloc h4.size _,by omega,by omega⟩
theorem ReadSt.onto (h : ReadSt te th w0 w s b1 b2 k e n) (hb : Below w.heap.size w w') : ReadSt te th w0 w' s b1 b2 k e n :=
 h.eyed (EyeB.below h.eye hb) (grown_below hb)
theorem note_zero (e : Int) : note e 0 = e := by unfold note; split <;> omega
theorem ReadSt.cell (h : ReadSt te th w0 w s b1 b2 k e n) (j : Nat) : w.cell? ⟨b2,j,none⟩ = n.cells[j]? := by
 rw [cell_of_row w b2 j _ th (0,0) h.head]
 simp
theorem ReadSt.free (h : ReadSt te th w0 w s b1 b2 k e n) (j : Nat) : w.frozen? ⟨b2,j,none⟩ = false := frozen_of_row w b2 j _ th h.head
theorem ReadSt.rcell (h : ReadSt te th w0 w s b1 b2 k e n) (j : Nat) : w.cell? ⟨w0.heap.size,j,none⟩ = headNone.cells[j]? := by
 rw [cell_of_row w _ j _ th (0,0) h.res]
 simp
theorem ReadSt.rfree (h : ReadSt te th w0 w s b1 b2 k e n) (j : Nat) : w.frozen? ⟨w0.heap.size,j,none⟩ = false := frozen_of_row w _ j _ th h.res
end Go.Creel
namespace Go.Proofs.YtaffgndickdbiaaGreatDoor
open Go.Creel Go.RowKit
abbrev tHd : TypeId := 62
theorem EyeTextK (b : Nat) (s : ByteArray) (k m k' : Nat) (wh : Bool) (e : Int) (w : World) (p : ByteArray × Int) (hp : fieldOf (s.extract k k') wh = p) (hk : k + m = k') (h : EyeAt tEye w b s k e) (hk' : k' ≤ s.size) (hs : s.size ≤ 1000) :
 Calls Tryz.prog 166 #[.pointer (some ⟨b,0,none⟩),.int .i64 m,.bool wh] w fun x w'=>x = .returned (.string p.1)/\EyeAt tEye w' b s k' (note e p.2)/\w.grownBy w' (some b):=by
 subst hk hp
 exact EyeText_any b s k m wh e w h hk' hs
set_option maxRecDepth 100000 in
theorem RdText {w0 w : World} {s : ByteArray} {b1 b2 k : Nat} {e : Int} {n : HeadN} (h : ReadSt tEye tHd w0 w s b1 b2 k e n) (m k' : Nat) (wh : Bool) (p : ByteArray × Int) (hp : fieldOf (s.extract k k') wh = p) (hk : k + m = k') (hk' : k' ≤ s.size) (hs : s.size ≤ 1000) :
 Calls Tryz.prog 166 #[.pointer (some ⟨b1,0,none⟩),.int .i64 m,.bool wh] w fun x w'=>x = .returned (.string p.1)/\ReadSt tEye tHd w0 w' s b1 b2 k' (note e p.2) n:=by
 subst hk hp
 exact (EyeText_any b1 s k m wh e w h.eye hk' hs).mono fun x w' ⟨h1,h2,h3⟩=>⟨h1,h.eyed h2 h3⟩
theorem RdNum {w0 w : World} {s : ByteArray} {b1 b2 k : Nat} {e : Int} {n : HeadN} (h : ReadSt tEye tHd w0 w s b1 b2 k e n) (m k' : Nat) (p : Int × Int) (hp : octOf (s.extract k k') = p) (hk : k + m = k') (hk' : k' ≤ s.size) (hs : s.size ≤ 1000) :
 Calls Tryz.prog 167 #[.pointer (some ⟨b1,0,none⟩),.int .i64 m] w fun x w'=>x = .returned (.int .i64 p.1)/\ReadSt tEye tHd w0 w' s b1 b2 k' (note e p.2) n:=by
 subst hk hp
 exact (EyeNum_any b1 s k m e w h.eye hk' hs).mono fun x w' ⟨h1,h2,h3⟩=>⟨h1,h.eyed h2 h3⟩
theorem RdJust {w0 w : World} {s : ByteArray} {b1 b2 k : Nat} {e : Int} {n : HeadN} (h : ReadSt tEye tHd w0 w s b1 b2 k e n) (t : ByteArray) (m k' : Nat) (j : Int) (hj : justE s k k' t = j) (hm : t.size = m) (hk : k + m = k') (hk' : k' ≤ s.size) (hs : s.size ≤ 1000) :
 Calls Tryz.prog 170 #[.pointer (some ⟨b1,0,none⟩),.string t] w fun x w'=>x = .returned (.tuple #[])/\ReadSt tEye tHd w0 w' s b1 b2 k' (note e j) n:=by
 subst hk hj
 exact (EyeJust_any b1 s t k m e w h.eye hm hk' hs).mono fun x w' ⟨h1,h2,h3⟩=>⟨h1,h.eyed h2 h3⟩
theorem RdTake {w0 w : World} {s : ByteArray} {b1 b2 k : Nat} {e : Int} {n : HeadN} (h : ReadSt tEye tHd w0 w s b1 b2 k e n) (m k' : Nat) (t : ByteArray) (ht : s.extract k k' = t) (hk : k + m = k') (hk' : k' ≤ s.size) (hs : s.size ≤ 1000) :
 Calls Tryz.prog 168 #[.pointer (some ⟨b1,0,none⟩),.int .i64 m] w fun x w'=>x = .returned (.string t)/\ReadSt tEye tHd w0 w' s b1 b2 k' e n:=by
 subst hk ht
 exact (Take_any b1 s k m e w h.eye hk' hs).mono fun x w' ⟨h1,h2,h3⟩=>⟨h1,h.eyed h2 h3⟩
theorem RdNote {w0 w : World} {s : ByteArray} {b1 b2 k : Nat} {e : Int} {n : HeadN} (h : ReadSt tEye tHd w0 w s b1 b2 k e n) (f : Int) :
 Calls Tryz.prog 169 #[.pointer (some ⟨b1,0,none⟩),.int .i64 f] w fun x w'=>x = .returned (.tuple #[])/\ReadSt tEye tHd w0 w' s b1 b2 k (note e f) n :=
 (Note_any b1 s k e f w h.eye).mono fun x w' ⟨h1,h2,h3⟩=>⟨h1,h.eyed h2 h3⟩
set_option maxRecDepth 100000 in
set_option maxHeartbeats 8000000 in
theorem HeadRead_any (s : ByteArray) (w : World) (hs : s.size ≤ maxLen) :
 Calls Tryz.prog 117 #[.string s] w fun x w'=>x = .returned (.tuple #[HeadN.val' (headOf s).1,.int .i64 (headOf s).2])/\Below w.heap.size w w':=by
 have HBZ:=Lib.hid ((Below.refl w.heap.size w).alloc (Nat.le_refl _) (headBox headNone tHd))
 have HSM:=Lib.hid (fun w=>Sum_any s w hs)
 by_cases h5:s.size=512
 ·have hs8:s.size<=1000:=by omega
  have HOC:=Lib.hid (fun w=>OctRead_any (s.extract 148 155) w (by unfold maxLen;simp;omega))
  have hb155:=byt_get s 155 (by omega)
  have hsb:(headSum s).2=0:=by unfold headSum;rw [if_pos h5]
  have HSB:=Lib.hid hsb
  cases hok:sumOk s with
  | false =>
    have HF:=Lib.hid (show headOf s=(headNone,8) by unfold headOf;rw [if_neg (by simpa using h5),if_pos hok])
    have hoc:¬ ((octOf (s.extract 148 155)).2=0/\(octOf (s.extract 148 155)).1=(headSum s).1/\byt s 155=32):=by
     intro h
     unfold sumOk at hok
     rw [decide_eq_true h.1,decide_eq_true h.2.1,decide_eq_true h.2.2] at hok
     cases hok
    generalize octOf (s.extract 148 155)=q at *
    generalize headSum s=sm at *
    obtain ⟨q1,q2⟩:=q
    obtain ⟨sm1,sm2⟩:=sm
    simp only at hoc hsb
    subst hsb
    clear hok HSB
    by_cases hq2:q2=0
    ·have e2:(q2 != 0)=false:=by rw [hq2];rfl
     by_cases hq1:q1=sm1
     ·have e1:(q1 != sm1)=false:=by rw [hq1];simp
      have e3:(((byt s 155:Nat):Int) != 32)=true:=by rw [bne_iff_ne];omega
      clear hoc
      subst hq2
      go_enter Tryz.func117,Tryz.ntmps117
      go_wp2_with (first|(go_at_call 99;refine (HSM.out _).mono ?_;rintro e w' ⟨rfl,rfl⟩)|(go_at_call 165;refine (HOC.out _).mono ?_;rintro e w' ⟨rfl,rfl⟩))
      (try simp only [Exit.inBlock,Exit.then])
      refine bodyPost_ret (v := .tuple #[.agg #[.string ⟨#[]⟩,.string ⟨#[]⟩,.string ⟨#[]⟩,.int .i64 0,.int .i64 0,.int .i64 0,.int .i64 0,.int .i64 0,.int .u8 0,.string ⟨#[]⟩,.string ⟨#[]⟩],.int .i64 8]) (by rw [results_cell_tmp rfl];go_simp) rfl ?_
      rw [HF.out]
      exact ⟨rfl,HBZ.out⟩
     ·have e1:(q1 != sm1)=true:=by rw [bne_iff_ne];exact hq1
      clear hoc
      subst hq2
      go_enter Tryz.func117,Tryz.ntmps117
      go_wp2_with (first|(go_at_call 99;refine (HSM.out _).mono ?_;rintro e w' ⟨rfl,rfl⟩)|(go_at_call 165;refine (HOC.out _).mono ?_;rintro e w' ⟨rfl,rfl⟩))
      (try simp only [Exit.inBlock,Exit.then])
      refine bodyPost_ret (v := .tuple #[.agg #[.string ⟨#[]⟩,.string ⟨#[]⟩,.string ⟨#[]⟩,.int .i64 0,.int .i64 0,.int .i64 0,.int .i64 0,.int .i64 0,.int .u8 0,.string ⟨#[]⟩,.string ⟨#[]⟩],.int .i64 8]) (by rw [results_cell_tmp rfl];go_simp) rfl ?_
      rw [HF.out]
      exact ⟨rfl,HBZ.out⟩
    ·have e2:(q2 != 0)=true:=by rw [bne_iff_ne];exact hq2
     clear hoc
     go_enter Tryz.func117,Tryz.ntmps117
     go_wp2_with (first|(go_at_call 99;refine (HSM.out _).mono ?_;rintro e w' ⟨rfl,rfl⟩)|(go_at_call 165;refine (HOC.out _).mono ?_;rintro e w' ⟨rfl,rfl⟩))
     (try simp only [Exit.inBlock,Exit.then])
     refine bodyPost_ret (v := .tuple #[.agg #[.string ⟨#[]⟩,.string ⟨#[]⟩,.string ⟨#[]⟩,.int .i64 0,.int .i64 0,.int .i64 0,.int .i64 0,.int .i64 0,.int .u8 0,.string ⟨#[]⟩,.string ⟨#[]⟩],.int .i64 8]) (by rw [results_cell_tmp rfl];go_simp) rfl ?_
     rw [HF.out]
     exact ⟨rfl,HBZ.out⟩
  | true =>
    have hoc:(octOf (s.extract 148 155)).2=0/\(octOf (s.extract 148 155)).1=(headSum s).1/\byt s 155=32:=by
     have h:=hok
     unfold sumOk at h
     simp only [Bool.and_eq_true,decide_eq_true_eq] at h
     exact ⟨h.1.1,h.1.2,h.2⟩
    obtain ⟨c,hc⟩:∃ c,s.data.toList.getD 156 0=c:=⟨_,rfl⟩
    have HF:Hid (∀ E,E=headWorst s->headOf s=if ¬ E=0 then (headNone,E) else (headFields s,0)):=Lib.hid (fun E hE=>by subst hE;unfold headOf;rw [if_neg (by simpa using h5),if_neg (by rw [hok];simp)])
    unfold headWorst headFaults headFields typeE at HF
    simp only [List.foldl_cons,List.foldl_nil] at HF
    have HC1:=Lib.hid (show s.extract 156 157=ofL [c] by
     rw [extract_one s 156 (by omega),<-hc,List.getD_eq_getElem?_getD,List.getElem?_eq_getElem (by simpa using (show 156<s.size by omega))]
     rfl)
    rw [hc] at HF
    have hib:=fun w=>IndexByte_any ⟨#[48,49,50,53,120]⟩ ((c.toNat:Nat):Int) w
    simp only [show (((c.toNat:Nat):Int).toNat.toUInt8)=c by simp] at hib
    have hix:decide (firstIdx ⟨#[48,49,50,53,120]⟩ c<0) = !hasB (ofL [48,49,50,53,120]) c:=by
     rw [<-idx_has,<-decide_not]
     exact decide_eq_decide.2 (by show firstIdx (ofL [48,49,50,53,120]) c<0↔_;omega)
    generalize firstIdx ⟨#[48,49,50,53,120]⟩ c=ix at hib hix
    have HIB:=Lib.hid hib
    clear hib
    generalize hasB (ofL [48,49,50,53,120]) c=tb at *
    have HIX:=Lib.hid hix
    clear hc hix
    generalize hpf1:fieldOf (s.extract 0 100) true=f1 at *
    have HPf1:=Lib.hid hpf1
    clear hpf1
    generalize hpo1:octOf (s.extract 100 108)=o1 at *
    have HPo1:=Lib.hid hpo1
    clear hpo1
    generalize hpo2:octOf (s.extract 108 116)=o2 at *
    have HPo2:=Lib.hid hpo2
    clear hpo2
    generalize hpo3:octOf (s.extract 116 124)=o3 at *
    have HPo3:=Lib.hid hpo3
    clear hpo3
    generalize hpo4:octOf (s.extract 124 136)=o4 at *
    have HPo4:=Lib.hid hpo4
    clear hpo4
    generalize hpo5:octOf (s.extract 136 148)=o5 at *
    have HPo5:=Lib.hid hpo5
    clear hpo5
    generalize hpf2:fieldOf (s.extract 157 257) true=f2 at *
    have HPf2:=Lib.hid hpf2
    clear hpf2
    generalize hpj1:justE s 257 265 (ofL [117,115,116,97,114,0,48,48])=j1 at *
    have HPj1:=Lib.hid hpj1
    clear hpj1
    generalize hpf3:fieldOf (s.extract 265 297) false=f3 at *
    have HPf3:=Lib.hid hpf3
    clear hpf3
    generalize hpf4:fieldOf (s.extract 297 329) false=f4 at *
    have HPf4:=Lib.hid hpf4
    clear hpf4
    generalize hpj2:justE s 329 345 (ofL (zero8++zero8))=j2 at *
    have HPj2:=Lib.hid hpj2
    clear hpj2
    generalize hpf5:fieldOf (s.extract 345 500) true=f5 at *
    have HPf5:=Lib.hid hpf5
    clear hpf5
    generalize hpj3:justE s 500 512 (zerosS 12)=j3 at *
    have HPj3:=Lib.hid hpj3
    clear hpj3
    generalize octOf (s.extract 148 155)=q at *
    generalize headSum s=sm at *
    obtain ⟨q1,q2⟩:=q
    obtain ⟨sm1,sm2⟩:=sm
    simp only at hoc hsb
    obtain ⟨hq2,hq1,h32⟩:=hoc
    subst hsb hq2 hq1
    have e1:(q1 != q1)=false:=by simp
    have e3:(((byt s 155:Nat):Int) != 32)=false:=by rw [h32];rfl
    clear hok HSB h32
    go_enter Tryz.func117,Tryz.ntmps117
    go_wp2_with (first|(go_at_call 99;refine (HSM.out _).mono ?_;rintro e w' ⟨rfl,rfl⟩)|(go_at_call 165;refine (HOC.out _).mono ?_;rintro e w' ⟨rfl,rfl⟩)|(go_at_call 166;fail))
    refine (EyeTextK (w.heap.size+1) s 0 100 100 true 0 _ f1 HPf1.out rfl (EyeAt.made _ _ s) (by omega) hs8).mono ?_
    rintro x w4 ⟨rfl,he,hg⟩
    have HS0:Hid (ReadSt tEye tHd w (w4.alloc (.cells #[.string f1.1,.string ⟨#[]⟩,.string ⟨#[]⟩,.int .i64 0,.int .i64 0,.int .i64 0,.int .i64 0,.int .i64 0,.int .u8 0,.string ⟨#[]⟩,.string ⟨#[]⟩] 62)) s (w.heap.size+1) w4.heap.size 100 (note 0 f1.2) (⟨f1.1,ByteArray.empty,ByteArray.empty,0,0,0,0,0,0,ByteArray.empty,ByteArray.empty⟩:HeadN)):=Lib.hid (ReadSt.made (n:=(⟨f1.1,ByteArray.empty,ByteArray.empty,0,0,0,0,0,0,ByteArray.empty,ByteArray.empty⟩:HeadN)) he hg)
    clear he hg
    go_upto_region 9 with fail
    generalize World.alloc w4 _=w5 at *
    generalize w4.heap.size=b2 at *
    generalize hb1:w.heap.size+1=b1 at *
    clear hb1
    go_upto_region 9 with fail
    go_cut [] from 44 to 52 (fun wx=>Hid (ReadSt tEye tHd w wx s b1 b2 124 (note (note (note (note 0 f1.2) o1.2) o2.2) o3.2) (⟨f1.1,ByteArray.empty,ByteArray.empty,o1.1,o2.1,o3.1,0,0,0,ByteArray.empty,ByteArray.empty⟩:HeadN)))
    case first =>
     go_wp2_with fail
     refine (RdNum HS0.out 8 108 o1 HPo1.out rfl (by omega) hs8).mono ?_
     rintro x w1 ⟨rfl,h1⟩
     have S1:=Lib.hid h1
     clear h1
     go_wp2_with fail
     refine (RdNum S1.out 8 116 o2 HPo2.out rfl (by omega) hs8).mono ?_
     rintro x w2 ⟨rfl,h1⟩
     have S2:=Lib.hid h1
     clear h1
     go_wp2_with fail
     refine (RdNum S2.out 8 124 o3 HPo3.out rfl (by omega) hs8).mono ?_
     rintro x w3 ⟨rfl,h1⟩
     have S3:=Lib.hid h1
     clear h1
     have c3:w3.cell? ⟨b2,3,none⟩=some (.int .i64 0):=S3.out.cell 3
     have g3:=S3.out.free 3
     have c4:w3.cell? ⟨b2,4,none⟩=some (.int .i64 0):=S3.out.cell 4
     have g4:=S3.out.free 4
     have c5:w3.cell? ⟨b2,5,none⟩=some (.int .i64 0):=S3.out.cell 5
     have g5:=S3.out.free 5
     go_wp2
     go_meet
     exact Lib.hid (((S3.out.put (n':=(⟨f1.1,ByteArray.empty,ByteArray.empty,o1.1,0,0,0,0,0,ByteArray.empty,ByteArray.empty⟩:HeadN)) 3 (.int .i64 o1.1) rfl).put (n':=(⟨f1.1,ByteArray.empty,ByteArray.empty,o1.1,o2.1,0,0,0,0,ByteArray.empty,ByteArray.empty⟩:HeadN)) 4 (.int .i64 o2.1) rfl).put (n':=(⟨f1.1,ByteArray.empty,ByteArray.empty,o1.1,o2.1,o3.1,0,0,0,ByteArray.empty,ByteArray.empty⟩:HeadN)) 5 (.int .i64 o3.1) rfl)
    case rest =>
     have HS9:=hcut
     clear hcut HS0
     go_upto_region 10 with fail
     go_cut [] from 53 to 58 (fun wx=>Hid (ReadSt tEye tHd w wx s b1 b2 148 (note (note (note (note (note (note 0 f1.2) o1.2) o2.2) o3.2) o4.2) o5.2) (⟨f1.1,ByteArray.empty,ByteArray.empty,o1.1,o2.1,o3.1,o4.1,o5.1,0,ByteArray.empty,ByteArray.empty⟩:HeadN)))
     case first =>
      go_wp2_with fail
      refine (RdNum HS9.out 12 136 o4 HPo4.out rfl (by omega) hs8).mono ?_
      rintro x w1 ⟨rfl,h1⟩
      have S1:=Lib.hid h1
      clear h1
      go_wp2_with fail
      refine (RdNum S1.out 12 148 o5 HPo5.out rfl (by omega) hs8).mono ?_
      rintro x w2 ⟨rfl,h1⟩
      have S2:=Lib.hid h1
      clear h1
      have c6:w2.cell? ⟨b2,6,none⟩=some (.int .i64 0):=S2.out.cell 6
      have g6:=S2.out.free 6
      have c7:w2.cell? ⟨b2,7,none⟩=some (.int .i64 0):=S2.out.cell 7
      have g7:=S2.out.free 7
      go_wp2
      go_meet
      exact Lib.hid ((S2.out.put (n':=(⟨f1.1,ByteArray.empty,ByteArray.empty,o1.1,o2.1,o3.1,o4.1,0,0,ByteArray.empty,ByteArray.empty⟩:HeadN)) 6 (.int .i64 o4.1) rfl).put (n':=(⟨f1.1,ByteArray.empty,ByteArray.empty,o1.1,o2.1,o3.1,o4.1,o5.1,0,ByteArray.empty,ByteArray.empty⟩:HeadN)) 7 (.int .i64 o5.1) rfl)
     case rest =>
      have HS10:=hcut
      clear hcut HS9
      go_upto_region 11 with fail
      go_cut [] from 59 to 60 (fun wx=>Hid (ReadSt tEye tHd w wx s b1 b2 156 (note (note (note (note (note (note 0 f1.2) o1.2) o2.2) o3.2) o4.2) o5.2) (⟨f1.1,ByteArray.empty,ByteArray.empty,o1.1,o2.1,o3.1,o4.1,o5.1,0,ByteArray.empty,ByteArray.empty⟩:HeadN)))
      case first =>
       go_wp2_with fail
       refine (RdTake HS10.out 8 156 _ rfl rfl (by omega) hs8).mono ?_
       rintro x w1 ⟨rfl,h1⟩
       have S1:=Lib.hid h1
       clear h1
       go_wp2
       go_meet
       exact Lib.hid S1.out
      case rest =>
       have HS11:=hcut
       clear hcut HS10
       go_upto_region 12 with fail
       go_cut [] from 61 to 64 (fun wx=>Hid (ReadSt tEye tHd w wx s b1 b2 157 (note (note (note (note (note (note 0 f1.2) o1.2) o2.2) o3.2) o4.2) o5.2) (⟨f1.1,ByteArray.empty,ByteArray.empty,o1.1,o2.1,o3.1,o4.1,o5.1,c,ByteArray.empty,ByteArray.empty⟩:HeadN)))
       case first =>
        go_wp2_with fail
        refine (RdTake HS11.out 1 157 _ HC1.out rfl (by omega) hs8).mono ?_
        rintro x w1 ⟨rfl,h1⟩
        have S1:=Lib.hid h1
        clear h1
        have hc8:=byt_get (ofL [c]) 0 (by rw [ofL_size];simp)
        rw [show byt (ofL [c]) 0=c.toNat from rfl] at hc8
        have hsz1:(ofL [c]).size=1:=rfl
        have c8:w1.cell? ⟨b2,8,none⟩=some (.int .u8 0):=S1.out.cell 8
        have g8:=S1.out.free 8
        go_wp2
        go_meet
        exact Lib.hid (S1.out.put (n':=(⟨f1.1,ByteArray.empty,ByteArray.empty,o1.1,o2.1,o3.1,o4.1,o5.1,c,ByteArray.empty,ByteArray.empty⟩:HeadN)) 8 (.int .u8 c.toNat) rfl)
       case rest =>
        have HS12:=hcut
        clear hcut HS11
        have c8:wc.cell? ⟨b2,8,none⟩=some (.int .u8 c.toNat):=HS12.out.cell 8
        go_upto_if 68 with (go_at_call 84;refine (HIB.out _).mono ?_;rintro e w' ⟨rfl,rfl⟩)
        have hix:=HIX.out
        clear HIX
        generalize hb8:decide (ix<0)=b8 at *
        have hix2:tb = !b8:=by rw [hix];simp
        subst hix2
        clear hb8 hix
        go_cut [] from 69 to 70 (fun wx=>Hid (ReadSt tEye tHd w wx s b1 b2 157 (note (note (note (note (note (note (note 0 f1.2) o1.2) o2.2) o3.2) o4.2) o5.2) (if (!b8)=true then 0 else 3)) (⟨f1.1,ByteArray.empty,ByteArray.empty,o1.1,o2.1,o3.1,o4.1,o5.1,c,ByteArray.empty,ByteArray.empty⟩:HeadN)))
        case first =>
         cases b8 with
         | false =>
           have HQ:=Lib.hid (note_zero (note (note (note (note (note (note 0 f1.2) o1.2) o2.2) o3.2) o4.2) o5.2))
           go_wp2
           go_meet
           exact Lib.hid (by rw [if_pos (show (!false)=true from rfl),HQ.out];exact HS12.out)
         | true =>
           go_wp2_with fail
           refine (RdNote HS12.out 3).mono ?_
           rintro x w1 ⟨rfl,h1⟩
           have S1:=Lib.hid h1
           clear h1
           go_wp2
           go_meet
           exact Lib.hid (by rw [if_neg (show ¬ (!true)=true from by decide)];exact S1.out)
        case rest =>
         have HS14:=hcut
         clear hcut c8 HS12
         go_upto_region 15 with fail
         go_cut [] from 71 to 73 (fun wx=>Hid (ReadSt tEye tHd w wx s b1 b2 257 (note (note (note (note (note (note (note (note 0 f1.2) o1.2) o2.2) o3.2) o4.2) o5.2) (if (!b8)=true then 0 else 3)) f2.2) (⟨f1.1,ByteArray.empty,f2.1,o1.1,o2.1,o3.1,o4.1,o5.1,c,ByteArray.empty,ByteArray.empty⟩:HeadN)))
         case first =>
          go_wp2_with fail
          refine (RdText HS14.out 100 257 true f2 HPf2.out rfl (by omega) hs8).mono ?_
          rintro x w1 ⟨rfl,h1⟩
          have S1:=Lib.hid h1
          clear h1
          have c2:w1.cell? ⟨b2,2,none⟩=some (.string ByteArray.empty):=S1.out.cell 2
          have g2:=S1.out.free 2
          go_wp2
          go_meet
          exact Lib.hid (S1.out.put (n':=(⟨f1.1,ByteArray.empty,f2.1,o1.1,o2.1,o3.1,o4.1,o5.1,c,ByteArray.empty,ByteArray.empty⟩:HeadN)) 2 (.string f2.1) rfl)
         case rest =>
          have HS15:=hcut
          clear hcut HS14
          go_upto_region 16 with fail
          go_cut [] from 74 to 75 (fun wx=>Hid (ReadSt tEye tHd w wx s b1 b2 265 (note (note (note (note (note (note (note (note (note 0 f1.2) o1.2) o2.2) o3.2) o4.2) o5.2) (if (!b8)=true then 0 else 3)) f2.2) j1) (⟨f1.1,ByteArray.empty,f2.1,o1.1,o2.1,o3.1,o4.1,o5.1,c,ByteArray.empty,ByteArray.empty⟩:HeadN)))
          case first =>
           go_wp2_with fail
           refine (RdJust HS15.out (ofL [117,115,116,97,114,0,48,48]) 8 265 j1 HPj1.out rfl rfl (by omega) hs8).mono ?_
           rintro x w1 ⟨rfl,h1⟩
           have S1:=Lib.hid h1
           clear h1
           go_wp2
           go_meet
           exact Lib.hid S1.out
          case rest =>
           have HS16:=hcut
           clear hcut HS15
           go_upto_region 17 with fail
           go_cut [] from 76 to 81 (fun wx=>Hid (ReadSt tEye tHd w wx s b1 b2 329 (note (note (note (note (note (note (note (note (note (note (note 0 f1.2) o1.2) o2.2) o3.2) o4.2) o5.2) (if (!b8)=true then 0 else 3)) f2.2) j1) f3.2) f4.2) (⟨f1.1,ByteArray.empty,f2.1,o1.1,o2.1,o3.1,o4.1,o5.1,c,f3.1,f4.1⟩:HeadN)))
           case first =>
            go_wp2_with fail
            refine (RdText HS16.out 32 297 false f3 HPf3.out rfl (by omega) hs8).mono ?_
            rintro x w1 ⟨rfl,h1⟩
            have S1:=Lib.hid h1
            clear h1
            go_wp2_with fail
            refine (RdText S1.out 32 329 false f4 HPf4.out rfl (by omega) hs8).mono ?_
            rintro x w2 ⟨rfl,h1⟩
            have S2:=Lib.hid h1
            clear h1
            have c9:w2.cell? ⟨b2,9,none⟩=some (.string ByteArray.empty):=S2.out.cell 9
            have g9:=S2.out.free 9
            have c10:w2.cell? ⟨b2,10,none⟩=some (.string ByteArray.empty):=S2.out.cell 10
            have g10:=S2.out.free 10
            go_wp2
            go_meet
            exact Lib.hid ((S2.out.put (n':=(⟨f1.1,ByteArray.empty,f2.1,o1.1,o2.1,o3.1,o4.1,o5.1,c,f3.1,ByteArray.empty⟩:HeadN)) 9 (.string f3.1) rfl).put (n':=(⟨f1.1,ByteArray.empty,f2.1,o1.1,o2.1,o3.1,o4.1,o5.1,c,f3.1,f4.1⟩:HeadN)) 10 (.string f4.1) rfl)
           case rest =>
            have HS17:=hcut
            clear hcut HS16
            go_upto_region 18 with fail
            go_cut [] from 82 to 83 (fun wx=>Hid (ReadSt tEye tHd w wx s b1 b2 345 (note (note (note (note (note (note (note (note (note (note (note (note 0 f1.2) o1.2) o2.2) o3.2) o4.2) o5.2) (if (!b8)=true then 0 else 3)) f2.2) j1) f3.2) f4.2) j2) (⟨f1.1,ByteArray.empty,f2.1,o1.1,o2.1,o3.1,o4.1,o5.1,c,f3.1,f4.1⟩:HeadN)))
            case first =>
             go_wp2_with fail
             refine (RdJust HS17.out (ofL (zero8++zero8)) 16 345 j2 HPj2.out rfl rfl (by omega) hs8).mono ?_
             rintro x w1 ⟨rfl,h1⟩
             have S1:=Lib.hid h1
             clear h1
             go_wp2
             go_meet
             exact Lib.hid S1.out
            case rest =>
             have HS18:=hcut
             clear hcut HS17
             go_upto_region 19 with fail
             go_cut [] from 84 to 86 (fun wx=>Hid (ReadSt tEye tHd w wx s b1 b2 500 (note (note (note (note (note (note (note (note (note (note (note (note (note 0 f1.2) o1.2) o2.2) o3.2) o4.2) o5.2) (if (!b8)=true then 0 else 3)) f2.2) j1) f3.2) f4.2) j2) f5.2) (⟨f1.1,f5.1,f2.1,o1.1,o2.1,o3.1,o4.1,o5.1,c,f3.1,f4.1⟩:HeadN)))
             case first =>
              go_wp2_with fail
              refine (RdText HS18.out 155 500 true f5 HPf5.out rfl (by omega) hs8).mono ?_
              rintro x w1 ⟨rfl,h1⟩
              have S1:=Lib.hid h1
              clear h1
              have c1:w1.cell? ⟨b2,1,none⟩=some (.string ByteArray.empty):=S1.out.cell 1
              have g1:=S1.out.free 1
              go_wp2
              go_meet
              exact Lib.hid (S1.out.put (n':=(⟨f1.1,f5.1,f2.1,o1.1,o2.1,o3.1,o4.1,o5.1,c,f3.1,f4.1⟩:HeadN)) 1 (.string f5.1) rfl)
             case rest =>
              have HS19:=hcut
              clear hcut HS18
              go_upto_region 20 with fail
              go_cut [] from 87 to 89 (fun wx=>Hid (ReadSt tEye tHd w wx s b1 b2 512 (note (note (note (note (note (note (note (note (note (note (note (note (note (note 0 f1.2) o1.2) o2.2) o3.2) o4.2) o5.2) (if (!b8)=true then 0 else 3)) f2.2) j1) f3.2) f4.2) j2) f5.2) j3) (⟨f1.1,f5.1,f2.1,o1.1,o2.1,o3.1,o4.1,o5.1,c,f3.1,f4.1⟩:HeadN)))
              case first =>
               go_wp2_with (go_at_call 98;refine (Repeat0_any _ _ (by omega) (by omega)).mono ?_;rintro e w1 ⟨rfl,hb⟩;have S1:=Lib.hid (HS19.out.onto hb);clear hb)
               refine (RdJust S1.out (zerosS 12) 12 512 j3 HPj3.out (zerosS_size 12) rfl (by omega) hs8).mono ?_
               rintro x w2 ⟨rfl,h1⟩
               have S2:=Lib.hid h1
               clear h1
               go_wp2
               go_meet
               exact S2
              case rest =>
               have HS20:=hcut
               clear hcut HS19
               generalize hE:note (note (note (note (note (note (note (note (note (note (note (note (note (note 0 f1.2) o1.2) o2.2) o3.2) o4.2) o5.2) (if (!b8)=true then 0 else 3)) f2.2) j1) f3.2) f4.2) j2) f5.2) j3=E at HS20
               have HFE:=Lib.hid (HF.out E hE.symm)
               clear hE HF
               have c1:=HS20.out.eye.c1
               have HBF:=Lib.hid HS20.out.below
               have r0:wc.cell? ⟨w.heap.size,0,none⟩=some (.string ⟨#[]⟩):=HS20.out.rcell 0
               have q0:=HS20.out.rfree 0
               have r1:wc.cell? ⟨w.heap.size,1,none⟩=some (.string ⟨#[]⟩):=HS20.out.rcell 1
               have q1:=HS20.out.rfree 1
               have r2:wc.cell? ⟨w.heap.size,2,none⟩=some (.string ⟨#[]⟩):=HS20.out.rcell 2
               have q2:=HS20.out.rfree 2
               have r3:wc.cell? ⟨w.heap.size,3,none⟩=some (.int .i64 0):=HS20.out.rcell 3
               have q3:=HS20.out.rfree 3
               have r4:wc.cell? ⟨w.heap.size,4,none⟩=some (.int .i64 0):=HS20.out.rcell 4
               have q4:=HS20.out.rfree 4
               have r5:wc.cell? ⟨w.heap.size,5,none⟩=some (.int .i64 0):=HS20.out.rcell 5
               have q5:=HS20.out.rfree 5
               have r6:wc.cell? ⟨w.heap.size,6,none⟩=some (.int .i64 0):=HS20.out.rcell 6
               have q6:=HS20.out.rfree 6
               have r7:wc.cell? ⟨w.heap.size,7,none⟩=some (.int .i64 0):=HS20.out.rcell 7
               have q7:=HS20.out.rfree 7
               have r8:wc.cell? ⟨w.heap.size,8,none⟩=some (.int .u8 0):=HS20.out.rcell 8
               have q8:=HS20.out.rfree 8
               have r9:wc.cell? ⟨w.heap.size,9,none⟩=some (.string ⟨#[]⟩):=HS20.out.rcell 9
               have q9:=HS20.out.rfree 9
               have r10:wc.cell? ⟨w.heap.size,10,none⟩=some (.string ⟨#[]⟩):=HS20.out.rcell 10
               have q10:=HS20.out.rfree 10
               by_cases hE0:E=0
               ·have HEND:=Lib.hid (HFE.out.trans (if_neg (by rw [hE0];simp)))
                have d0:wc.cell? ⟨b2,0,none⟩=some (.string f1.1):=HS20.out.cell 0
                have d1:wc.cell? ⟨b2,1,none⟩=some (.string f5.1):=HS20.out.cell 1
                have d2:wc.cell? ⟨b2,2,none⟩=some (.string f2.1):=HS20.out.cell 2
                have d3:wc.cell? ⟨b2,3,none⟩=some (.int .i64 o1.1):=HS20.out.cell 3
                have d4:wc.cell? ⟨b2,4,none⟩=some (.int .i64 o2.1):=HS20.out.cell 4
                have d5:wc.cell? ⟨b2,5,none⟩=some (.int .i64 o3.1):=HS20.out.cell 5
                have d6:wc.cell? ⟨b2,6,none⟩=some (.int .i64 o4.1):=HS20.out.cell 6
                have d7:wc.cell? ⟨b2,7,none⟩=some (.int .i64 o5.1):=HS20.out.cell 7
                have d8:wc.cell? ⟨b2,8,none⟩=some (.int .u8 c.toNat):=HS20.out.cell 8
                have d9:wc.cell? ⟨b2,9,none⟩=some (.string f3.1):=HS20.out.cell 9
                have d10:wc.cell? ⟨b2,10,none⟩=some (.string f4.1):=HS20.out.cell 10
                have hq0:(E != 0)=false:=by rw [hE0];rfl
                clear hE0
                go_wp2
                (try simp only [Exit.inBlock,Exit.then])
                refine bodyPost_ret (v := .tuple #[.agg #[.string f1.1,.string f5.1,.string f2.1,.int .i64 o1.1,.int .i64 o2.1,.int .i64 o3.1,.int .i64 o4.1,.int .i64 o5.1,.int .u8 c.toNat,.string f3.1,.string f4.1],.int .i64 0]) (by rw [results_cell_tmp rfl];go_simp) rfl ?_
                rw [HEND.out]
                exact ⟨rfl,(((((((((((HBF.out.setCell (p:=⟨w.heap.size,0,none⟩) (Nat.le_refl _) _).setCell (p:=⟨w.heap.size,1,none⟩) (Nat.le_refl _) _).setCell (p:=⟨w.heap.size,2,none⟩) (Nat.le_refl _) _).setCell (p:=⟨w.heap.size,3,none⟩) (Nat.le_refl _) _).setCell (p:=⟨w.heap.size,4,none⟩) (Nat.le_refl _) _).setCell (p:=⟨w.heap.size,5,none⟩) (Nat.le_refl _) _).setCell (p:=⟨w.heap.size,6,none⟩) (Nat.le_refl _) _).setCell (p:=⟨w.heap.size,7,none⟩) (Nat.le_refl _) _).setCell (p:=⟨w.heap.size,8,none⟩) (Nat.le_refl _) _).setCell (p:=⟨w.heap.size,9,none⟩) (Nat.le_refl _) _).setCell (p:=⟨w.heap.size,10,none⟩) (Nat.le_refl _) _)⟩
               ·have HEND:=Lib.hid (HFE.out.trans (if_pos hE0))
                have hq0:(E != 0)=true:=by rw [bne_iff_ne];exact hE0
                clear hE0
                go_upto_region 22 with fail
                have hlt1:=HS20.out.lt1
                have hn1:¬ w.heap.size=b1:=by omega
                have hn2:¬ b1=w.heap.size:=by omega
                go_region
                go_wp2
                (try simp only [Exit.inBlock,Exit.then])
                refine bodyPost_ret (v := .tuple #[.agg #[.string ⟨#[]⟩,.string ⟨#[]⟩,.string ⟨#[]⟩,.int .i64 0,.int .i64 0,.int .i64 0,.int .i64 0,.int .i64 0,.int .u8 0,.string ⟨#[]⟩,.string ⟨#[]⟩],.int .i64 E]) (by rw [results_cell_tmp rfl];go_simp) rfl ?_
                rw [HEND.out]
                exact ⟨rfl,((((((((((((HBF.out.setCell (p:=⟨w.heap.size,0,none⟩) (Nat.le_refl _) _).setCell (p:=⟨w.heap.size,1,none⟩) (Nat.le_refl _) _).setCell (p:=⟨w.heap.size,2,none⟩) (Nat.le_refl _) _).setCell (p:=⟨w.heap.size,3,none⟩) (Nat.le_refl _) _).setCell (p:=⟨w.heap.size,4,none⟩) (Nat.le_refl _) _).setCell (p:=⟨w.heap.size,5,none⟩) (Nat.le_refl _) _).setCell (p:=⟨w.heap.size,6,none⟩) (Nat.le_refl _) _).setCell (p:=⟨w.heap.size,7,none⟩) (Nat.le_refl _) _).setCell (p:=⟨w.heap.size,8,none⟩) (Nat.le_refl _) _).setCell (p:=⟨w.heap.size,9,none⟩) (Nat.le_refl _) _).setCell (p:=⟨w.heap.size,10,none⟩) (Nat.le_refl _) _)).drew⟩
 ·have HF:=Lib.hid (show headOf s=(headNone,1) by unfold headOf;rw [if_pos h5])
  have hsb:(headSum s).2=1:=by unfold headSum;rw [if_neg h5]
  generalize headSum s=sm at *
  obtain ⟨sm1,sm2⟩:=sm
  simp only at hsb
  subst hsb
  go_enter Tryz.func117,Tryz.ntmps117
  go_wp2_with (go_at_call 99;refine (HSM.out _).mono ?_;rintro e w' ⟨rfl,rfl⟩)
  (try simp only [Exit.inBlock,Exit.then])
  refine bodyPost_ret (v := .tuple #[.agg #[.string ⟨#[]⟩,.string ⟨#[]⟩,.string ⟨#[]⟩,.int .i64 0,.int .i64 0,.int .i64 0,.int .i64 0,.int .i64 0,.int .u8 0,.string ⟨#[]⟩,.string ⟨#[]⟩],.int .i64 1]) (by rw [results_cell_tmp rfl];go_simp) rfl ?_
  rw [HF.out]
  exact ⟨rfl,HBZ.out⟩
end Go.Proofs.YtaffgndickdbiaaGreatDoor
namespace Go.Creel
open Go.RowKit
theorem addr_zeroB (a : Option Addr) : a.map (·.add 0) = a := by cases a <;> simp [Addr.add]
theorem bytes_take {N : Nat} {w : World} {a : Option Addr} {n cap i : Nat} {l : List UInt8} (h : SliceC N 1 ByteC w [.slice a n cap] l) (hi : i ≤ l.length) : SliceC N 1 ByteC w [.slice a i cap] (l.take i) := by
 obtain ⟨a',cap',hv,h1,h2,h3,h4,h5⟩:=h
 simp only [List.cons.injEq,Value.slice.injEq,and_true] at hv
 obtain ⟨rfl,rfl,rfl⟩:=hv
 have hl:(l.take i).length=i:=by rw [List.length_take];omega
 refine ⟨a,cap,by rw [hl],by omega,h2,by omega,h4,fun hp=>?_⟩
 obtain ⟨b,off,e,hc⟩:=h5 (by omega)
 refine ⟨b,off,e,fun k hk=>?_⟩
 obtain ⟨c,hcl,hcc,hE⟩:=hc k (by omega)
 exact ⟨c,hcl,hcc,by rw [List.getElem_take];exact hE⟩
theorem bytes_drop {N : Nat} {w : World} {a : Option Addr} {n cap i : Nat} {l : List UInt8} (h : SliceC N 1 ByteC w [.slice a n cap] l) (hi : i ≤ l.length) : SliceC N 1 ByteC w [sliced a i n cap 1] (l.drop i) := by
 obtain ⟨a',cap',hv,h1,h2,h3,h4,h5⟩:=h
 simp only [List.cons.injEq,Value.slice.injEq,and_true] at hv
 obtain ⟨rfl,rfl,rfl⟩:=hv
 have hl:(l.drop i).length=l.length-i:=List.length_drop
 unfold sliced
 refine ⟨if cap=i then a else a.map (·.add (i*1)),cap-i,by rw [hl],by omega,by omega,by omega,fun h=>?_,fun hp=>?_⟩
 ·split at h
  ·have:=h4 h;omega
  ·cases ha:a with
   | none=>have:=h4 ha;omega
   | some x=>rw [ha] at h;cases h
 ·obtain ⟨b,off,e,hc⟩:=h5 (by omega)
  refine ⟨b,off+i*1,?_,fun k hk=>?_⟩
  ·rw [if_neg (by omega),e]
   simp only [Option.map_some,Addr.add]
   by_cases h0:i=0<;>simp [h0]
  ·obtain ⟨c,hcl,hcc,hE⟩:=hc (i+k) (by omega)
   refine ⟨c,hcl,fun j hj=>?_,by rw [List.getElem_drop];exact hE⟩
   rw [<-hcc j hj]
   congr 2
   omega
theorem bytes_form {N : Nat} {w : World} {v : Value} {l : List UInt8} (h : SliceC N 1 ByteC w [v] l) : ∃ a cap,v = .slice a l.length cap ∧ l.length ≤ cap := by
 obtain ⟨a,cap,hv,h1,_⟩:=h
 exact ⟨a,cap,by simpa using hv,h1⟩
end Go.Creel
namespace Go.Proofs.YtaffgndickdbiaaGreatDoor
open Go.Creel Go.RowKit
theorem run_takeB (w : World) (a : Option Addr) (n cap i : Nat) (h : i ≤ n) (hc : n ≤ cap) : (Instr.slice 24 (.slice a n cap) none (some (.int .i64 i)) none).run Tryz.prog w = .ok (.slice a i cap) w := by
 rw [run_slice_h w 24 a n cap (by kernel_rfl) .i64 i (by omega) (by omega)]
 have hs:(sizeOf (Tryz.prog.elem 24)).run Tryz.prog w = .ok 1 w:=by kernel_rfl
 rw [hs]
 simp only [Result.andThen,sliced,Int.toNat_natCast,Nat.zero_mul,addr_zeroB,ite_self,Nat.sub_zero]
theorem run_dropB (w : World) (a : Option Addr) (n cap i : Nat) (h : i ≤ n) (hc : n ≤ cap) : (Instr.slice 24 (.slice a n cap) (some (.int .i64 i)) none none).run Tryz.prog w = .ok (sliced a i n cap 1) w := by
 rw [run_slice_l w 24 a n cap (by kernel_rfl) .i64 i (by omega) (by omega)]
 have hs:(sizeOf (Tryz.prog.elem 24)).run Tryz.prog w = .ok 1 w:=by kernel_rfl
 rw [hs]
 simp only [Result.andThen,Int.toNat_natCast]
end Go.Proofs.YtaffgndickdbiaaGreatDoor
