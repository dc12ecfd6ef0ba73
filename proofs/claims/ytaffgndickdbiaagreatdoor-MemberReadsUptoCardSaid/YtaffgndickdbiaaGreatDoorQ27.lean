/-
  Texts: HeadRef.
-/
import Derived.Test.YtaffgndickdbiaaGreatDoorQ26
set_option linter.unusedVariables false
set_option linter.unusedSimpArgs false
set_option linter.unusedSectionVars false
namespace Go.Creel
open Go.RowKit
structure HrSt (te th : TypeId) (fv : Value) (w0 w : World) (s : ByteArray) (bw b2 : Nat) (e : Int) (n : HeadN) : Prop where
 ref:RefE te fv w w0.heap.size bw (bw+1) s e
 head:w.heap[b2]?=some (.cells n.cells.toArray th (0,0))
 res:w.heap[w0.heap.size+1]?=some (.cells headNone.cells.toArray th (0,0))
 below:Below w0.heap.size w0 w
 lt1:w0.heap.size+1<bw
 lt2:bw+1<b2
variable {te th : TypeId} {fv : Value} {w0 w w' : World} {s : ByteArray} {bw b2 : Nat} {e e' : Int} {n n' : HeadN}
theorem HrSt.noted (h : HrSt te th fv w0 w s bw b2 e n) (he : RefE te fv w' w0.heap.size bw (bw + 1) s e') (hg : w.grownBy w' (some bw)) : HrSt te th fv w0 w' s bw b2 e' n := by
 have h1:=h.lt1
 have h2:=h.lt2
 have l2:b2<w.heap.size:=(Array.getElem?_eq_some_iff.1 h.head).1
 exact ⟨he,(hg.block b2 l2 (by simp;omega)).trans h.head,(hg.block _ (by omega) (by simp;omega)).trans h.res,h.below.grown hg h.below.size (fun j hj=>by cases hj;omega),h1,h2⟩
theorem HrSt.onto (h : HrSt te th fv w0 w s bw b2 e n) (hb : Below w.heap.size w w') : HrSt te th fv w0 w' s bw b2 e n := h.noted (h.ref.below hb) (grown_below hb)
theorem HrSt.put (h : HrSt te th fv w0 w s bw b2 e n) (j : Nat) (u : Value) (hn : n'.cells = n.cells.set j u) : HrSt te th fv w0 (w.setCell ⟨b2,j,none⟩ u) s bw b2 e n' := by
 have h1:=h.lt1
 have h2:=h.lt2
 have r:=h.ref
 refine ⟨⟨?_,?_,?_,r.sw,r.nw⟩,?_,?_,h.below.setCell (p:=⟨b2,j,none⟩) (by show w0.heap.size<=b2;omega) u,h1,h2⟩
 ·rw [World.cell?_setCell_other _ _ _ _ (fun e=>by have:=congrArg Addr.block e;simp at this;omega)]
  exact r.str
 ·rw [World.cell?_setCell_other _ _ _ _ (fun e=>by have:=congrArg Addr.block e;simp at this;omega)]
  exact r.fn
 ·rw [heap_setCell_other w ⟨b2,j,none⟩ bw u (by show bw≠b2;omega)]
  exact r.worst
 ·rw [heap_setCell_same w b2 j _ th _ h.head,hn]
  simp
 ·rw [heap_setCell_other w ⟨b2,j,none⟩ _ u (by show w0.heap.size+1≠b2;omega)]
  exact h.res
theorem HrSt.cell (h : HrSt te th fv w0 w s bw b2 e n) (j : Nat) : w.cell? ⟨b2,j,none⟩ = n.cells[j]? := by
 rw [cell_of_row w b2 j _ th (0,0) h.head]
 simp
theorem HrSt.free (h : HrSt te th fv w0 w s bw b2 e n) (j : Nat) : w.frozen? ⟨b2,j,none⟩ = false := frozen_of_row w b2 j _ th h.head
theorem HrSt.rcell (h : HrSt te th fv w0 w s bw b2 e n) (j : Nat) : w.cell? ⟨w0.heap.size + 1,j,none⟩ = headNone.cells[j]? := by
 rw [cell_of_row w _ j _ th (0,0) h.res]
 simp
theorem HrSt.rfree (h : HrSt te th fv w0 w s bw b2 e n) (j : Nat) : w.frozen? ⟨w0.heap.size + 1,j,none⟩ = false := frozen_of_row w _ j _ th h.res
theorem nz (e : Int) : note e 0 = e := by unfold note; split <;> omega
theorem two_begin (w : World) (ts : TypeId) (s : ByteArray) : Below w.heap.size w ((w.alloc (.cells #[.string s] ts)).alloc (.cells headNone.cells.toArray th)) ∧ ((w.alloc (.cells #[.string s] ts)).alloc (.cells headNone.cells.toArray th)).cell? ⟨w.heap.size,0,none⟩ = some (.string s) ∧
 ((w.alloc (.cells #[.string s] ts)).alloc (.cells headNone.cells.toArray th)).heap[w.heap.size+1]?=some (.cells headNone.cells.toArray th (0,0)):=by
 have h1:Below w.heap.size w (w.alloc (.cells #[.string s] ts)):=(Below.refl _ _).alloc (Nat.le_refl _) _
 have hs:(w.alloc (.cells #[.string s] ts)).heap.size=w.heap.size+1:=by simp
 refine ⟨h1.alloc (by omega) _,?_,?_⟩
 ·have h2:=(Below.refl (w.alloc (.cells #[.string s] ts)).heap.size (w.alloc (.cells #[.string s] ts))).alloc (Nat.le_refl _) (.cells headNone.cells.toArray th)
  rw [h2.cell (p:=⟨w.heap.size,0,none⟩) (by rw [hs];show w.heap.size<_;omega),World.cell?_alloc_new]
  rfl
 ·have h2:=heap_alloc_new (w.alloc (.cells #[.string s] ts)) (.cells headNone.cells.toArray th)
  rw [hs] at h2
  exact h2
theorem HrSt.made {ts tf : TypeId} {w1 : World} (hb : Below ((w.alloc (.cells #[.string s] ts)).alloc (.cells headNone.cells.toArray th)).heap.size ((w.alloc (.cells #[.string s] ts)).alloc (.cells headNone.cells.toArray th)) w1) (hfv : fv.oneCell' = true) (hbw : w1.heap.size = bw) :
 HrSt te th fv w (((w1.alloc (.cells #[.int .i64 0] te)).alloc (.cells #[fv] tf)).alloc (.cells headNone.cells.toArray th)) s bw (bw+2) 0 headNone:=by
 subst hbw
 obtain ⟨t1,t2,t3⟩:=two_begin (th:=th) w ts s
 have hsz:=hb.size
 simp at hsz
 have a1:Below w1.heap.size w1 (w1.alloc (.cells #[.int .i64 0] te)):=(Below.refl _ _).alloc (Nat.le_refl _) _
 have s1:(w1.alloc (.cells #[.int .i64 0] te)).heap.size=w1.heap.size+1:=by simp
 have a2:Below w1.heap.size w1 ((w1.alloc (.cells #[.int .i64 0] te)).alloc (.cells #[fv] tf)):=a1.alloc (by omega) _
 have s2:((w1.alloc (.cells #[.int .i64 0] te)).alloc (.cells #[fv] tf)).heap.size=w1.heap.size+2:=by simp
 have a3:Below w1.heap.size w1 (((w1.alloc (.cells #[.int .i64 0] te)).alloc (.cells #[fv] tf)).alloc (.cells headNone.cells.toArray th)):=a2.alloc (by omega) _
 refine ⟨⟨?_,?_,?_,by omega,by omega⟩,?_,?_,?_,by omega,by omega⟩
 ·rw [a3.cell (p:=⟨w.heap.size,0,none⟩) (by show w.heap.size<_;omega),hb.cell (p:=⟨w.heap.size,0,none⟩) (by simp;omega)]
  exact t2
 ·have h2:=(Below.refl ((w1.alloc (.cells #[.int .i64 0] te)).alloc (.cells #[fv] tf)).heap.size _).alloc (Nat.le_refl _) (.cells headNone.cells.toArray th)
  rw [h2.cell (p:=⟨w1.heap.size+1,0,none⟩) (by rw [s2];show w1.heap.size+1<_;omega)]
  have h3:=World.cell?_alloc_new (w1.alloc (.cells #[.int .i64 0] te)) #[fv] tf 0
  rw [s1] at h3
  exact h3
 ·rw [heap_alloc_old _ _ (by rw [s2];omega),heap_alloc_old _ _ (by rw [s1];omega)]
  exact heap_alloc_new w1 _
 ·have h2:=heap_alloc_new ((w1.alloc (.cells #[.int .i64 0] te)).alloc (.cells #[fv] tf)) (.cells headNone.cells.toArray th)
  rw [s2] at h2
  exact h2
 ·rw [a3.block (w.heap.size+1) (by omega),hb.block (w.heap.size+1) (by simp)]
  exact t3
 ·exact (t1.trans (hb.mono (by simp;omega))).trans (a3.mono (by omega))
theorem store_last {P : Program} (W : World) (n : Nat) (t : TypeId) (fv : Value) (hn : n = W.heap.size) (hf : fv.oneCell' = true) : (store ⟨n,0,none⟩ fv).run P (W.alloc (.cells #[.nilFunc] t)) = .ok () (W.alloc (.cells #[fv] t)) := by
 subst hn
 rw [run_store P _ _ _ _ hf,World.cell?_alloc_new,frozen_of_row _ _ 0 _ t (heap_alloc_new W _),World.setCell_alloc_new]
 rfl
end Go.Creel
namespace Go.Proofs.YtaffgndickdbiaaGreatDoor
open Go.Creel Go.RowKit
abbrev HrS (w0 w : World) (s : ByteArray) (bw b2 : Nat) (e : Int) (n : HeadN) : Prop := HrSt tErr 62 (noteV bw) w0 w s bw b2 e n
set_option maxRecDepth 100000 in
theorem HrText {w0 w : World} {s : ByteArray} {bw b2 : Nat} {e : Int} {n : HeadN} (h : HrS w0 w s bw b2 e n) (a b : Nat) (wh : Bool) (p : ByteArray × Int) (hp : fieldOf (s.extract a b) wh = p) (hab : a ≤ b) (hb : b ≤ s.size) (hs : s.size ≤ 1000) :
 Calls Tryz.prog 177 #[.int .i64 a,.int .i64 b,.bool wh,.pointer (some ⟨w0.heap.size,0,none⟩),.pointer (some ⟨bw+1,0,none⟩)] w fun x w'=>x = .returned (.string p.1)/\HrS w0 w' s bw b2 (note e p.2) n :=
 (RText_any _ bw _ s a b wh e w p hp h.ref hab hb hs).mono fun x w' ⟨h1,h2,h3⟩=>⟨h1,h.noted h2 h3⟩
theorem HrNum {w0 w : World} {s : ByteArray} {bw b2 : Nat} {e : Int} {n : HeadN} (h : HrS w0 w s bw b2 e n) (a b : Nat) (p : Int × Int) (hp : octOf (s.extract a b) = p) (hab : a ≤ b) (hb : b ≤ s.size) (hs : s.size ≤ 1000) :
 Calls Tryz.prog 179 #[.int .i64 a,.int .i64 b,.pointer (some ⟨w0.heap.size,0,none⟩),.pointer (some ⟨bw+1,0,none⟩)] w fun x w'=>x = .returned (.int .i64 p.1)/\HrS w0 w' s bw b2 (note e p.2) n :=
 (RNum_any _ bw _ s a b e w p hp h.ref hab hb hs).mono fun x w' ⟨h1,h2,h3⟩=>⟨h1,h.noted h2 h3⟩
theorem HrJust {w0 w : World} {s : ByteArray} {bw b2 : Nat} {e : Int} {n : HeadN} (h : HrS w0 w s bw b2 e n) (t : ByteArray) (a m b : Nat) (j : Int) (hj : justE s a b t = j) (hm : t.size = m) (hab : a + m = b) (hb : b ≤ s.size) (hs : s.size ≤ 1000) :
 Calls Tryz.prog 181 #[.int .i64 a,.string t,.pointer (some ⟨w0.heap.size,0,none⟩),.pointer (some ⟨bw+1,0,none⟩)] w fun x w'=>x = .returned (.tuple #[])/\HrS w0 w' s bw b2 (note e j) n :=
 (RJust_any _ bw _ s t a b m e j w hj h.ref hm hab hb hs).mono fun x w' ⟨h1,h2,h3⟩=>⟨h1,h.noted h2 h3⟩
theorem HrNote {w0 w : World} {s : ByteArray} {bw b2 : Nat} {e : Int} {n : HeadN} (h : HrS w0 w s bw b2 e n) (f : Int) :
 Calls Tryz.prog 176 #[.int .i64 f,.pointer (some ⟨bw,0,none⟩)] w fun x w'=>x = .returned (.tuple #[])/\HrS w0 w' s bw b2 (note e f) n :=
 (RNote_any _ bw _ s e f w h.ref).mono fun x w' ⟨h1,h2,h3⟩=>⟨h1,h.noted h2 h3⟩
set_option maxRecDepth 100000 in
set_option maxHeartbeats 8000000 in
theorem HeadOf_any (s : ByteArray) (w : World) (hs : s.size ≤ maxLen) :
 Calls Tryz.prog 125 #[.string s] w fun x w'=>x = .returned (.tuple #[HeadN.val' (headOf s).1,.int .i64 (headOf s).2])/\Below w.heap.size w w':=by
 have HTW:=Lib.hid (two_begin (th:=62) w 9 s)
 have HSM:=Lib.hid (fun w=>HeadSum_any s w hs)
 by_cases h5:s.size=512
 ·have hs8:s.size<=1000:=by omega
  have hsb:(headSum s).2=0:=by unfold headSum;rw [if_pos h5]
  have hsr:=sumOk_ref h5
  have htz:(octText (headSum s).1 7).1.size<=512:=by
   unfold octText
   split
   ·split
    ·rw [ofL_size];simp [digs_length]
    ·simp
   ·simp
  have HTX:=Lib.hid (fun w=>OctText_any (headSum s).1 7 w)
  have HF8:=Lib.hid (fun (h:sumOk s=false)=>show headOf s=(headNone,8) by unfold headOf;rw [if_neg (by simpa using h5),if_pos h])
  have HF:Hid (sumOk s=true->∀ E,E=headWorst s->headOf s=if ¬ E=0 then (headNone,E) else (headFields s,0)):=Lib.hid (fun hok E hE=>by subst hE;unfold headOf;rw [if_neg (by simpa using h5),if_neg (by rw [hok];simp)])
  generalize octText (headSum s).1 7=tx at *
  generalize headSum s=sm at *
  obtain ⟨sm1,sm2⟩:=sm
  obtain ⟨t1,t2⟩:=tx
  simp only at hsb hsr htz
  subst hsb
  cases hok:sumOk s with
  | false =>
    have HF:=Lib.hid (HF8.out hok)
    have hne:¬ (s.extract 148 156=t1++ofL [32]):=fun e=>by rw [hsr.1 e] at hok;cases hok
    have hq:((s.extract 148 156).toList==(t1++⟨#[32]⟩).toList)=false:=seq_f hne
    clear hsr hne hok
    go_enter Tryz.func125,Tryz.ntmps125
    go_wp2_with (first|(go_at_call 110;refine (HSM.out _).mono ?_;rintro e w' ⟨rfl,rfl⟩)|(go_at_call 109;refine (HTX.out _).mono ?_;rintro e w' ⟨rfl,rfl⟩))
    (try simp only [Exit.inBlock,Exit.then])
    refine bodyPost_ret (v := .tuple #[.agg #[.string ⟨#[]⟩,.string ⟨#[]⟩,.string ⟨#[]⟩,.int .i64 0,.int .i64 0,.int .i64 0,.int .i64 0,.int .i64 0,.int .u8 0,.string ⟨#[]⟩,.string ⟨#[]⟩],.int .i64 8]) (by rw [results_cell_tmp rfl];go_simp) rfl ?_
    rw [HF.out]
    exact ⟨rfl,HTW.out.1⟩
  | true =>
    have heq:=hsr.2 hok
    have hq:((s.extract 148 156).toList==(t1++⟨#[32]⟩).toList)=true:=seq_t heq
    clear hsr heq
    have HFT:=HF.out hok
    clear hok HF HF8
    obtain ⟨c,hc⟩:∃ c,s.data.toList.getD 156 0=c:=⟨_,rfl⟩
    unfold headWorst headFaults headFields typeE at HFT
    simp only [List.foldl_cons,List.foldl_nil] at HFT
    have HF:=Lib.hid HFT
    clear HFT
    have hcb:byt s 156=c.toNat:=by rw [<-hc];rfl
    have hb156:=byt_get s 156 (by omega)
    rw [hcb] at hb156
    rw [hc] at HF
    have hhs:=fun w=>has_any (ofL [48,49,50,53,120]) c _ rfl w (by rw [ofL_size];unfold maxLen;simp)
    generalize hasB (ofL [48,49,50,53,120]) c=tb at *
    have HASB:=Lib.hid hhs
    clear hhs hc hcb
    generalize hpf1:fieldOf (s.extract 0 100) true=f1 at *
    have HPf1:=Lib.hid hpf1
    clear hpf1
    generalize hpo1:octOf (s.extract 100 108)=o1 at *
    have HPo1:=Lib.hid hpo1
    clear hpo1
    generalize hpo2:octOf (s.extract 108 116)=o2 at *
    have HPo2:=Lib.hid hpo2
    clear hpo2
    generalize hpo3:octOf (s.extract 116 124)=o3 at *
    have HPo3:=Lib.hid hpo3
    clear hpo3
    generalize hpo4:octOf (s.extract 124 136)=o4 at *
    have HPo4:=Lib.hid hpo4
    clear hpo4
    generalize hpo5:octOf (s.extract 136 148)=o5 at *
    have HPo5:=Lib.hid hpo5
    clear hpo5
    generalize hpf2:fieldOf (s.extract 157 257) true=f2 at *
    have HPf2:=Lib.hid hpf2
    clear hpf2
    generalize hpj1:justE s 257 265 (ofL [117,115,116,97,114,0,48,48])=j1 at *
    have HPj1:=Lib.hid hpj1
    clear hpj1
    generalize hpf3:fieldOf (s.extract 265 297) false=f3 at *
    have HPf3:=Lib.hid hpf3
    clear hpf3
    generalize hpf4:fieldOf (s.extract 297 329) false=f4 at *
    have HPf4:=Lib.hid hpf4
    clear hpf4
    generalize hpj2:justE s 329 345 (ofL (zero8++zero8))=j2 at *
    have HPj2:=Lib.hid hpj2
    clear hpj2
    generalize hpf5:fieldOf (s.extract 345 500) true=f5 at *
    have HPf5:=Lib.hid hpf5
    clear hpf5
    generalize hpj3:justE s 500 512 (zerosS 12)=j3 at *
    have HPj3:=Lib.hid hpj3
    clear hpj3
    have hfs:∀ (W:World) (n m:Nat) (t:TypeId),n=W.heap.size->(store ⟨n,0,none⟩ (.func (.func 176) #[] #[.pointer (some ⟨m,0,none⟩)])).run Tryz.prog (W.alloc (.cells #[.nilFunc] t)) = .ok () (W.alloc (.cells #[.func (.func 176) #[] #[.pointer (some ⟨m,0,none⟩)]] t)):=fun W n m t hn=>store_last W n t _ hn rfl
    go_enter Tryz.func125,Tryz.ntmps125
    go_upto_region 13 with (first|(go_at_call 110;refine (HSM.out _).mono ?_;rintro e w' ⟨rfl,rfl⟩)|(go_at_call 109;refine (HTX.out _).mono ?_;rintro e w' ⟨rfl,rfl⟩))
    have HS0:Hid (HrS w (((((w.alloc (.cells #[.string s] 9)).alloc (.cells #[.string ⟨#[]⟩,.string ⟨#[]⟩,.string ⟨#[]⟩,.int .i64 0,.int .i64 0,.int .i64 0,.int .i64 0,.int .i64 0,.int .u8 0,.string ⟨#[]⟩,.string ⟨#[]⟩] 62)).alloc (.cells #[.int .i64 0] tErr)).alloc (.cells #[.func (.func 176) #[] #[.pointer (some ⟨w.heap.size+1+1,0,none⟩)]] 185)).alloc (.cells #[.string ⟨#[]⟩,.string ⟨#[]⟩,.string ⟨#[]⟩,.int .i64 0,.int .i64 0,.int .i64 0,.int .i64 0,.int .i64 0,.int .u8 0,.string ⟨#[]⟩,.string ⟨#[]⟩] 62)) s (w.heap.size+1+1) (w.heap.size+1+1+1+1) 0 (⟨ByteArray.empty,ByteArray.empty,ByteArray.empty,0,0,0,0,0,0,ByteArray.empty,ByteArray.empty⟩:HeadN)):=Lib.hid (HrSt.made (ts:=9) (fv:=noteV (w.heap.size+1+1)) (Below.refl _ _) rfl (by simp))
    generalize World.alloc (World.alloc (World.alloc (World.alloc (World.alloc w _) _) _) _) _=w5 at *
    generalize w.heap.size+1+1+1+1=b2 at *
    generalize w.heap.size+1+1=bw at *
    go_upto_region 13 with fail
    go_cut [] from 39 to 41 (fun wx=>Hid (HrS w wx s bw b2 (note (0) f1.2) (⟨f1.1,ByteArray.empty,ByteArray.empty,0,0,0,0,0,0,ByteArray.empty,ByteArray.empty⟩:HeadN)))
    case first =>
     go_wp2_with fail
     refine (HrText HS0.out 0 100 true f1 HPf1.out (by omega) (by omega) hs8).mono ?_
     rintro x w1 ⟨rfl,h1⟩
     have S1:=Lib.hid h1
     clear h1
     have c0:w1.cell? ⟨b2,0,none⟩=some (.string ByteArray.empty):=S1.out.cell 0
     have g0:=S1.out.free 0
     go_wp2
     go_meet
     exact Lib.hid (S1.out.put (n':=(⟨f1.1,ByteArray.empty,ByteArray.empty,0,0,0,0,0,0,ByteArray.empty,ByteArray.empty⟩:HeadN)) 0 (.string f1.1) rfl)
    case rest =>
     have HS13:=hcut
     clear hcut HS0
     go_upto_region 14 with fail
     go_cut [] from 42 to 44 (fun wx=>Hid (HrS w wx s bw b2 (note (note (0) f1.2) o1.2) (⟨f1.1,ByteArray.empty,ByteArray.empty,o1.1,0,0,0,0,0,ByteArray.empty,ByteArray.empty⟩:HeadN)))
     case first =>
      go_wp2_with fail
      refine (HrNum HS13.out 100 108 o1 HPo1.out (by omega) (by omega) hs8).mono ?_
      rintro x w1 ⟨rfl,h1⟩
      have S1:=Lib.hid h1
      clear h1
      have c3:w1.cell? ⟨b2,3,none⟩=some (.int .i64 0):=S1.out.cell 3
      have g3:=S1.out.free 3
      go_wp2
      go_meet
      exact Lib.hid (S1.out.put (n':=(⟨f1.1,ByteArray.empty,ByteArray.empty,o1.1,0,0,0,0,0,ByteArray.empty,ByteArray.empty⟩:HeadN)) 3 (.int .i64 o1.1) rfl)
     case rest =>
      have HS14:=hcut
      clear hcut HS13
      go_upto_region 15 with fail
      go_cut [] from 45 to 47 (fun wx=>Hid (HrS w wx s bw b2 (note (note (note (0) f1.2) o1.2) o2.2) (⟨f1.1,ByteArray.empty,ByteArray.empty,o1.1,o2.1,0,0,0,0,ByteArray.empty,ByteArray.empty⟩:HeadN)))
      case first =>
       go_wp2_with fail
       refine (HrNum HS14.out 108 116 o2 HPo2.out (by omega) (by omega) hs8).mono ?_
       rintro x w1 ⟨rfl,h1⟩
       have S1:=Lib.hid h1
       clear h1
       have c4:w1.cell? ⟨b2,4,none⟩=some (.int .i64 0):=S1.out.cell 4
       have g4:=S1.out.free 4
       go_wp2
       go_meet
       exact Lib.hid (S1.out.put (n':=(⟨f1.1,ByteArray.empty,ByteArray.empty,o1.1,o2.1,0,0,0,0,ByteArray.empty,ByteArray.empty⟩:HeadN)) 4 (.int .i64 o2.1) rfl)
      case rest =>
       have HS15:=hcut
       clear hcut HS14
       go_upto_region 16 with fail
       go_cut [] from 48 to 50 (fun wx=>Hid (HrS w wx s bw b2 (note (note (note (note (0) f1.2) o1.2) o2.2) o3.2) (⟨f1.1,ByteArray.empty,ByteArray.empty,o1.1,o2.1,o3.1,0,0,0,ByteArray.empty,ByteArray.empty⟩:HeadN)))
       case first =>
        go_wp2_with fail
        refine (HrNum HS15.out 116 124 o3 HPo3.out (by omega) (by omega) hs8).mono ?_
        rintro x w1 ⟨rfl,h1⟩
        have S1:=Lib.hid h1
        clear h1
        have c5:w1.cell? ⟨b2,5,none⟩=some (.int .i64 0):=S1.out.cell 5
        have g5:=S1.out.free 5
        go_wp2
        go_meet
        exact Lib.hid (S1.out.put (n':=(⟨f1.1,ByteArray.empty,ByteArray.empty,o1.1,o2.1,o3.1,0,0,0,ByteArray.empty,ByteArray.empty⟩:HeadN)) 5 (.int .i64 o3.1) rfl)
       case rest =>
        have HS16:=hcut
        clear hcut HS15
        go_upto_region 17 with fail
        go_cut [] from 51 to 53 (fun wx=>Hid (HrS w wx s bw b2 (note (note (note (note (note (0) f1.2) o1.2) o2.2) o3.2) o4.2) (⟨f1.1,ByteArray.empty,ByteArray.empty,o1.1,o2.1,o3.1,o4.1,0,0,ByteArray.empty,ByteArray.empty⟩:HeadN)))
        case first =>
         go_wp2_with fail
         refine (HrNum HS16.out 124 136 o4 HPo4.out (by omega) (by omega) hs8).mono ?_
         rintro x w1 ⟨rfl,h1⟩
         have S1:=Lib.hid h1
         clear h1
         have c6:w1.cell? ⟨b2,6,none⟩=some (.int .i64 0):=S1.out.cell 6
         have g6:=S1.out.free 6
         go_wp2
         go_meet
         exact Lib.hid (S1.out.put (n':=(⟨f1.1,ByteArray.empty,ByteArray.empty,o1.1,o2.1,o3.1,o4.1,0,0,ByteArray.empty,ByteArray.empty⟩:HeadN)) 6 (.int .i64 o4.1) rfl)
        case rest =>
         have HS17:=hcut
         clear hcut HS16
         go_upto_region 18 with fail
         go_cut [] from 54 to 56 (fun wx=>Hid (HrS w wx s bw b2 (note (note (note (note (note (note (0) f1.2) o1.2) o2.2) o3.2) o4.2) o5.2) (⟨f1.1,ByteArray.empty,ByteArray.empty,o1.1,o2.1,o3.1,o4.1,o5.1,0,ByteArray.empty,ByteArray.empty⟩:HeadN)))
         case first =>
          go_wp2_with fail
          refine (HrNum HS17.out 136 148 o5 HPo5.out (by omega) (by omega) hs8).mono ?_
          rintro x w1 ⟨rfl,h1⟩
          have S1:=Lib.hid h1
          clear h1
          have c7:w1.cell? ⟨b2,7,none⟩=some (.int .i64 0):=S1.out.cell 7
          have g7:=S1.out.free 7
          go_wp2
          go_meet
          exact Lib.hid (S1.out.put (n':=(⟨f1.1,ByteArray.empty,ByteArray.empty,o1.1,o2.1,o3.1,o4.1,o5.1,0,ByteArray.empty,ByteArray.empty⟩:HeadN)) 7 (.int .i64 o5.1) rfl)
         case rest =>
          have HS18:=hcut
          clear hcut HS17
          go_upto_region 19 with fail
          go_cut [] from 57 to 59 (fun wx=>Hid (HrS w wx s bw b2 (note (note (note (note (note (note (0) f1.2) o1.2) o2.2) o3.2) o4.2) o5.2) (⟨f1.1,ByteArray.empty,ByteArray.empty,o1.1,o2.1,o3.1,o4.1,o5.1,c,ByteArray.empty,ByteArray.empty⟩:HeadN)))
          case first =>
           have cs:=HS18.out.ref.str
           have c8:wc.cell? ⟨b2,8,none⟩=some (.int .u8 0):=HS18.out.cell 8
           have g8:=HS18.out.free 8
           go_wp2
           go_meet
           exact Lib.hid (HS18.out.put (n':=(⟨f1.1,ByteArray.empty,ByteArray.empty,o1.1,o2.1,o3.1,o4.1,o5.1,c,ByteArray.empty,ByteArray.empty⟩:HeadN)) 8 (.int .u8 c.toNat) rfl)
          case rest =>
           have HS19:=hcut
           clear hcut HS18
           have c8:wc.cell? ⟨b2,8,none⟩=some (.int .u8 c.toNat):=HS19.out.cell 8
           go_upto_if 63 with (go_at_call 105;refine (HASB.out _).mono ?_;rintro e w' ⟨rfl,rfl⟩)
           clear HASB
           generalize hnb:(!tb)=nb at *
           have htb:tb = !nb:=by rw [<-hnb];simp
           subst htb
           clear hnb
           go_cut [] from 64 to 65 (fun wx=>Hid (HrS w wx s bw b2 (note (note (note (note (note (note (note (0) f1.2) o1.2) o2.2) o3.2) o4.2) o5.2) (if (!nb)=true then 0 else 3)) (⟨f1.1,ByteArray.empty,ByteArray.empty,o1.1,o2.1,o3.1,o4.1,o5.1,c,ByteArray.empty,ByteArray.empty⟩:HeadN)))
           case first =>
            cases nb with
            | false =>
              have HQ:=Lib.hid (nz (note (note (note (note (note (note (0) f1.2) o1.2) o2.2) o3.2) o4.2) o5.2))
              go_wp2
              go_meet
              exact Lib.hid (by rw [if_pos (show (!false)=true from rfl),HQ.out];exact HS19.out)
            | true =>
              have cf:=HS19.out.ref.fn
              go_wp2_with fail
              refine (HrNote HS19.out 3).mono ?_
              rintro x w1 ⟨rfl,h1⟩
              have S1:=Lib.hid h1
              clear h1
              go_wp2
              go_meet
              exact Lib.hid (by rw [if_neg (show ¬ (!true)=true from by decide)];exact S1.out)
           case rest =>
            have HS21:=hcut
            clear hcut c8 HS19
            go_upto_region 22 with fail
            go_cut [] from 66 to 68 (fun wx=>Hid (HrS w wx s bw b2 (note (note (note (note (note (note (note (note (0) f1.2) o1.2) o2.2) o3.2) o4.2) o5.2) (if (!nb)=true then 0 else 3)) f2.2) (⟨f1.1,ByteArray.empty,f2.1,o1.1,o2.1,o3.1,o4.1,o5.1,c,ByteArray.empty,ByteArray.empty⟩:HeadN)))
            case first =>
             go_wp2_with fail
             refine (HrText HS21.out 157 257 true f2 HPf2.out (by omega) (by omega) hs8).mono ?_
             rintro x w1 ⟨rfl,h1⟩
             have S1:=Lib.hid h1
             clear h1
             have c2:w1.cell? ⟨b2,2,none⟩=some (.string ByteArray.empty):=S1.out.cell 2
             have g2:=S1.out.free 2
             go_wp2
             go_meet
             exact Lib.hid (S1.out.put (n':=(⟨f1.1,ByteArray.empty,f2.1,o1.1,o2.1,o3.1,o4.1,o5.1,c,ByteArray.empty,ByteArray.empty⟩:HeadN)) 2 (.string f2.1) rfl)
            case rest =>
             have HS22:=hcut
             clear hcut HS21
             go_upto_region 23 with fail
             go_cut [] from 69 to 70 (fun wx=>Hid (HrS w wx s bw b2 (note (note (note (note (note (note (note (note (note (0) f1.2) o1.2) o2.2) o3.2) o4.2) o5.2) (if (!nb)=true then 0 else 3)) f2.2) j1) (⟨f1.1,ByteArray.empty,f2.1,o1.1,o2.1,o3.1,o4.1,o5.1,c,ByteArray.empty,ByteArray.empty⟩:HeadN)))
             case first =>
              go_wp2_with fail
              refine (HrJust HS22.out (ofL [117,115,116,97,114,0,48,48]) 257 8 265 j1 HPj1.out rfl rfl (by omega) hs8).mono ?_
              rintro x w1 ⟨rfl,h1⟩
              have S1:=Lib.hid h1
              clear h1
              go_wp2
              go_meet
              exact Lib.hid S1.out
             case rest =>
              have HS23:=hcut
              clear hcut HS22
              go_upto_region 24 with fail
              go_cut [] from 71 to 73 (fun wx=>Hid (HrS w wx s bw b2 (note (note (note (note (note (note (note (note (note (note (0) f1.2) o1.2) o2.2) o3.2) o4.2) o5.2) (if (!nb)=true then 0 else 3)) f2.2) j1) f3.2) (⟨f1.1,ByteArray.empty,f2.1,o1.1,o2.1,o3.1,o4.1,o5.1,c,f3.1,ByteArray.empty⟩:HeadN)))
              case first =>
               go_wp2_with fail
               refine (HrText HS23.out 265 297 false f3 HPf3.out (by omega) (by omega) hs8).mono ?_
               rintro x w1 ⟨rfl,h1⟩
               have S1:=Lib.hid h1
               clear h1
               have c9:w1.cell? ⟨b2,9,none⟩=some (.string ByteArray.empty):=S1.out.cell 9
               have g9:=S1.out.free 9
               go_wp2
               go_meet
               exact Lib.hid (S1.out.put (n':=(⟨f1.1,ByteArray.empty,f2.1,o1.1,o2.1,o3.1,o4.1,o5.1,c,f3.1,ByteArray.empty⟩:HeadN)) 9 (.string f3.1) rfl)
              case rest =>
               have HS24:=hcut
               clear hcut HS23
               go_upto_region 25 with fail
               go_cut [] from 74 to 76 (fun wx=>Hid (HrS w wx s bw b2 (note (note (note (note (note (note (note (note (note (note (note (0) f1.2) o1.2) o2.2) o3.2) o4.2) o5.2) (if (!nb)=true then 0 else 3)) f2.2) j1) f3.2) f4.2) (⟨f1.1,ByteArray.empty,f2.1,o1.1,o2.1,o3.1,o4.1,o5.1,c,f3.1,f4.1⟩:HeadN)))
               case first =>
                go_wp2_with fail
                refine (HrText HS24.out 297 329 false f4 HPf4.out (by omega) (by omega) hs8).mono ?_
                rintro x w1 ⟨rfl,h1⟩
                have S1:=Lib.hid h1
                clear h1
                have c10:w1.cell? ⟨b2,10,none⟩=some (.string ByteArray.empty):=S1.out.cell 10
                have g10:=S1.out.free 10
                go_wp2
                go_meet
                exact Lib.hid (S1.out.put (n':=(⟨f1.1,ByteArray.empty,f2.1,o1.1,o2.1,o3.1,o4.1,o5.1,c,f3.1,f4.1⟩:HeadN)) 10 (.string f4.1) rfl)
               case rest =>
                have HS25:=hcut
                clear hcut HS24
                go_upto_region 26 with fail
                go_cut [] from 77 to 78 (fun wx=>Hid (HrS w wx s bw b2 (note (note (note (note (note (note (note (note (note (note (note (note (0) f1.2) o1.2) o2.2) o3.2) o4.2) o5.2) (if (!nb)=true then 0 else 3)) f2.2) j1) f3.2) f4.2) j2) (⟨f1.1,ByteArray.empty,f2.1,o1.1,o2.1,o3.1,o4.1,o5.1,c,f3.1,f4.1⟩:HeadN)))
                case first =>
                 go_wp2_with fail
                 refine (HrJust HS25.out (ofL (zero8++zero8)) 329 16 345 j2 HPj2.out rfl rfl (by omega) hs8).mono ?_
                 rintro x w1 ⟨rfl,h1⟩
                 have S1:=Lib.hid h1
                 clear h1
                 go_wp2
                 go_meet
                 exact Lib.hid S1.out
                case rest =>
                 have HS26:=hcut
                 clear hcut HS25
                 go_upto_region 27 with fail
                 go_cut [] from 79 to 81 (fun wx=>Hid (HrS w wx s bw b2 (note (note (note (note (note (note (note (note (note (note (note (note (note (0) f1.2) o1.2) o2.2) o3.2) o4.2) o5.2) (if (!nb)=true then 0 else 3)) f2.2) j1) f3.2) f4.2) j2) f5.2) (⟨f1.1,f5.1,f2.1,o1.1,o2.1,o3.1,o4.1,o5.1,c,f3.1,f4.1⟩:HeadN)))
                 case first =>
                  go_wp2_with fail
                  refine (HrText HS26.out 345 500 true f5 HPf5.out (by omega) (by omega) hs8).mono ?_
                  rintro x w1 ⟨rfl,h1⟩
                  have S1:=Lib.hid h1
                  clear h1
                  have c1:w1.cell? ⟨b2,1,none⟩=some (.string ByteArray.empty):=S1.out.cell 1
                  have g1:=S1.out.free 1
                  go_wp2
                  go_meet
                  exact Lib.hid (S1.out.put (n':=(⟨f1.1,f5.1,f2.1,o1.1,o2.1,o3.1,o4.1,o5.1,c,f3.1,f4.1⟩:HeadN)) 1 (.string f5.1) rfl)
                 case rest =>
                  have HS27:=hcut
                  clear hcut HS26
                  go_upto_region 28 with fail
                  go_cut [] from 82 to 84 (fun wx=>Hid (HrS w wx s bw b2 (note (note (note (note (note (note (note (note (note (note (note (note (note (note (0) f1.2) o1.2) o2.2) o3.2) o4.2) o5.2) (if (!nb)=true then 0 else 3)) f2.2) j1) f3.2) f4.2) j2) f5.2) j3) (⟨f1.1,f5.1,f2.1,o1.1,o2.1,o3.1,o4.1,o5.1,c,f3.1,f4.1⟩:HeadN)))
                  case first =>
                   go_wp2_with (go_at_call 60;refine (zeros_any _ _ (by omega) (by omega)).mono ?_;rintro e w' ⟨rfl,rfl⟩)
                   refine (HrJust HS27.out (zerosS 12) 500 12 512 j3 HPj3.out (zerosS_size 12) rfl (by omega) hs8).mono ?_
                   rintro x w2 ⟨rfl,h1⟩
                   have S2:=Lib.hid h1
                   clear h1
                   go_wp2
                   go_meet
                   exact S2
                  case rest =>
                   have HS20:=hcut
                   clear hcut HS27
                   generalize hE:note (note (note (note (note (note (note (note (note (note (note (note (note (note (0) f1.2) o1.2) o2.2) o3.2) o4.2) o5.2) (if (!nb)=true then 0 else 3)) f2.2) j1) f3.2) f4.2) j2) f5.2) j3=E at HS20
                   have HFE:=Lib.hid (HF.out E hE.symm)
                   clear hE HF
                   have c1:=HS20.out.ref.wc
                   have HBF:=Lib.hid HS20.out.below
                   have r0:wc.cell? ⟨w.heap.size+1,0,none⟩=some (.string ⟨#[]⟩):=HS20.out.rcell 0
                   have q0:=HS20.out.rfree 0
                   have r1:wc.cell? ⟨w.heap.size+1,1,none⟩=some (.string ⟨#[]⟩):=HS20.out.rcell 1
                   have q1:=HS20.out.rfree 1
                   have r2:wc.cell? ⟨w.heap.size+1,2,none⟩=some (.string ⟨#[]⟩):=HS20.out.rcell 2
                   have q2:=HS20.out.rfree 2
                   have r3:wc.cell? ⟨w.heap.size+1,3,none⟩=some (.int .i64 0):=HS20.out.rcell 3
                   have q3:=HS20.out.rfree 3
                   have r4:wc.cell? ⟨w.heap.size+1,4,none⟩=some (.int .i64 0):=HS20.out.rcell 4
                   have q4:=HS20.out.rfree 4
                   have r5:wc.cell? ⟨w.heap.size+1,5,none⟩=some (.int .i64 0):=HS20.out.rcell 5
                   have q5:=HS20.out.rfree 5
                   have r6:wc.cell? ⟨w.heap.size+1,6,none⟩=some (.int .i64 0):=HS20.out.rcell 6
                   have q6:=HS20.out.rfree 6
                   have r7:wc.cell? ⟨w.heap.size+1,7,none⟩=some (.int .i64 0):=HS20.out.rcell 7
                   have q7:=HS20.out.rfree 7
                   have r8:wc.cell? ⟨w.heap.size+1,8,none⟩=some (.int .u8 0):=HS20.out.rcell 8
                   have q8:=HS20.out.rfree 8
                   have r9:wc.cell? ⟨w.heap.size+1,9,none⟩=some (.string ⟨#[]⟩):=HS20.out.rcell 9
                   have q9:=HS20.out.rfree 9
                   have r10:wc.cell? ⟨w.heap.size+1,10,none⟩=some (.string ⟨#[]⟩):=HS20.out.rcell 10
                   have q10:=HS20.out.rfree 10
                   by_cases hE0:E=0
                   ·have HEND:=Lib.hid (HFE.out.trans (if_neg (by rw [hE0];simp)))
                    have d0:wc.cell? ⟨b2,0,none⟩=some (.string f1.1):=HS20.out.cell 0
                    have d1:wc.cell? ⟨b2,1,none⟩=some (.string f5.1):=HS20.out.cell 1
                    have d2:wc.cell? ⟨b2,2,none⟩=some (.string f2.1):=HS20.out.cell 2
                    have d3:wc.cell? ⟨b2,3,none⟩=some (.int .i64 o1.1):=HS20.out.cell 3
                    have d4:wc.cell? ⟨b2,4,none⟩=some (.int .i64 o2.1):=HS20.out.cell 4
                    have d5:wc.cell? ⟨b2,5,none⟩=some (.int .i64 o3.1):=HS20.out.cell 5
                    have d6:wc.cell? ⟨b2,6,none⟩=some (.int .i64 o4.1):=HS20.out.cell 6
                    have d7:wc.cell? ⟨b2,7,none⟩=some (.int .i64 o5.1):=HS20.out.cell 7
                    have d8:wc.cell? ⟨b2,8,none⟩=some (.int .u8 c.toNat):=HS20.out.cell 8
                    have d9:wc.cell? ⟨b2,9,none⟩=some (.string f3.1):=HS20.out.cell 9
                    have d10:wc.cell? ⟨b2,10,none⟩=some (.string f4.1):=HS20.out.cell 10
                    have hq0:(E != 0)=false:=by rw [hE0];rfl
                    clear hE0
                    go_wp2
                    (try simp only [Exit.inBlock,Exit.then])
                    refine bodyPost_ret (v := .tuple #[.agg #[.string f1.1,.string f5.1,.string f2.1,.int .i64 o1.1,.int .i64 o2.1,.int .i64 o3.1,.int .i64 o4.1,.int .i64 o5.1,.int .u8 c.toNat,.string f3.1,.string f4.1],.int .i64 0]) (by rw [results_cell_tmp rfl];go_simp) rfl ?_
                    rw [HEND.out]
                    exact ⟨rfl,(((((((((((HBF.out.setCell (p:=⟨w.heap.size+1,0,none⟩) (Nat.le_succ _) _).setCell (p:=⟨w.heap.size+1,1,none⟩) (Nat.le_succ _) _).setCell (p:=⟨w.heap.size+1,2,none⟩) (Nat.le_succ _) _).setCell (p:=⟨w.heap.size+1,3,none⟩) (Nat.le_succ _) _).setCell (p:=⟨w.heap.size+1,4,none⟩) (Nat.le_succ _) _).setCell (p:=⟨w.heap.size+1,5,none⟩) (Nat.le_succ _) _).setCell (p:=⟨w.heap.size+1,6,none⟩) (Nat.le_succ _) _).setCell (p:=⟨w.heap.size+1,7,none⟩) (Nat.le_succ _) _).setCell (p:=⟨w.heap.size+1,8,none⟩) (Nat.le_succ _) _).setCell (p:=⟨w.heap.size+1,9,none⟩) (Nat.le_succ _) _).setCell (p:=⟨w.heap.size+1,10,none⟩) (Nat.le_succ _) _)⟩
                   ·have HEND:=Lib.hid (HFE.out.trans (if_pos hE0))
                    have hq0:(E != 0)=true:=by rw [bne_iff_ne];exact hE0
                    clear hE0
                    go_upto_region 30 with fail
                    have hlt1:=HS20.out.lt1
                    have hn1:¬ w.heap.size+1=bw:=by omega
                    have hn2:¬ bw=w.heap.size+1:=by omega
                    go_region
                    go_wp2
                    (try simp only [Exit.inBlock,Exit.then])
                    refine bodyPost_ret (v := .tuple #[.agg #[.string ⟨#[]⟩,.string ⟨#[]⟩,.string ⟨#[]⟩,.int .i64 0,.int .i64 0,.int .i64 0,.int .i64 0,.int .i64 0,.int .u8 0,.string ⟨#[]⟩,.string ⟨#[]⟩],.int .i64 E]) (by rw [results_cell_tmp rfl];go_simp) rfl ?_
                    rw [HEND.out]
                    exact ⟨rfl,((((((((((((HBF.out.setCell (p:=⟨w.heap.size+1,0,none⟩) (Nat.le_succ _) _).setCell (p:=⟨w.heap.size+1,1,none⟩) (Nat.le_succ _) _).setCell (p:=⟨w.heap.size+1,2,none⟩) (Nat.le_succ _) _).setCell (p:=⟨w.heap.size+1,3,none⟩) (Nat.le_succ _) _).setCell (p:=⟨w.heap.size+1,4,none⟩) (Nat.le_succ _) _).setCell (p:=⟨w.heap.size+1,5,none⟩) (Nat.le_succ _) _).setCell (p:=⟨w.heap.size+1,6,none⟩) (Nat.le_succ _) _).setCell (p:=⟨w.heap.size+1,7,none⟩) (Nat.le_succ _) _).setCell (p:=⟨w.heap.size+1,8,none⟩) (Nat.le_succ _) _).setCell (p:=⟨w.heap.size+1,9,none⟩) (Nat.le_succ _) _).setCell (p:=⟨w.heap.size+1,10,none⟩) (Nat.le_succ _) _)).drew⟩
 ·have HF:=Lib.hid (show headOf s=(headNone,1) by unfold headOf;rw [if_pos h5])
  have hsb:(headSum s).2=1:=by unfold headSum;rw [if_neg h5]
  generalize headSum s=sm at *
  obtain ⟨sm1,sm2⟩:=sm
  simp only at hsb
  subst hsb
  go_enter Tryz.func125,Tryz.ntmps125
  go_wp2_with (go_at_call 110;refine (HSM.out _).mono ?_;rintro e w' ⟨rfl,rfl⟩)
  (try simp only [Exit.inBlock,Exit.then])
  refine bodyPost_ret (v := .tuple #[.agg #[.string ⟨#[]⟩,.string ⟨#[]⟩,.string ⟨#[]⟩,.int .i64 0,.int .i64 0,.int .i64 0,.int .i64 0,.int .i64 0,.int .u8 0,.string ⟨#[]⟩,.string ⟨#[]⟩],.int .i64 1]) (by rw [results_cell_tmp rfl];go_simp) rfl ?_
  rw [HF.out]
  exact ⟨rfl,HTW.out.1⟩
end Go.Proofs.YtaffgndickdbiaaGreatDoor
