/-
  Texts: GrowR, GrowRW, ResT.
-/
import Derived.Test.YtaffgndickdbiaaGreatDoorQ42
import Derived.Test.YtaffgndickdbiaaGreatDoorQ39
set_option linter.unusedVariables false
set_option linter.unusedSimpArgs false
set_option linter.unusedSectionVars false
namespace Go.Creel
open Go.RowKit
theorem entFind_all {l : List Ent} {s : ByteArray} {k : Nat} (hk : k ≤ l.length) (h : entFind (l.take k) s < k) : entFind l s = entFind (l.take k) s := by
 have h1:=entFind_lt (l:=l.take k) (s:=s) (by rw [List.length_take];omega)
 rw [ek_take h] at h1
 refine entFind_at (by omega) (fun j hj=>?_) h1
 have:=entFind_ne (l:=l.take k) (s:=s) hj
 rwa [ek_take (by omega)] at this
def refG (l : List Ent) (k : Nat) : List Nod := (List.range k).map (growN l l.length)
theorem refG_len (l : List Ent) (k : Nat) : (refG l k).length = k := by simp [refG]
theorem refG_succ (l : List Ent) (k : Nat) : refG l (k + 1) = refG l k ++ [growN l l.length k] := by simp [refG,List.range_succ]
theorem refG_ok {w : World} {l : List Ent} (hz : entsFault l = 0) (hok : ∀ i,i < l.length → (ek l i).Ok maxLen w) {k : Nat} (hk : k ≤ l.length) : ∀ x,x ∈ refG l k → x.Ok maxLen w := by
 intro x hx
 obtain ⟨i,hi,rfl⟩:=List.mem_map.1 hx
 exact growN_ok hz hok (by have:=List.mem_range.1 hi;omega)
theorem ref_link {l : List Ent} (hz : entsFault l = 0) {k : Nat} (hk : k < l.length) (h4 : (ek l k).kind = 4) : entFind l (ek l k).target < l.length ∧
 growN l l.length k=⟨(ek l k).path,1,(entFind l (ek l k).target:Int)+1,ByteArray.empty,(ek l k).mt,(ek l (entFind l (ek l k).target)).da,(ek l (entFind l (ek l k).target)).dcap,(ek l (entFind l (ek l k).target)).data⟩:=by
 obtain ⟨h1,h2,h3,h5⟩:=link_facts hz hk h4
 have he:entFind l (ek l k).target=linkAt l k:=entFind_all (by omega) h1
 rw [he]
 refine ⟨by omega,?_⟩
 rw [growN_link h4]
 have hs:=(entFault_size (stepE_zero ((entsFault_all hz).2 (linkAt l k) (by omega))).1).2 h2
 have ht:=eq_empty hs
 show (⟨(ek l k).path,(ek l (linkAt l k)).kind,(linkAt l k:Int)+1,(ek l (linkAt l k)).target,(ek l (linkAt l k)).mt,_,_,_⟩:Nod)=_
 rw [h2,h3,ht]
 rfl
structure RefSt (tn : TypeId) (w0 W : World) (k b1 : Nat) (v : Value) (x : Ent) (z : Nod) (c : List Nod) : Prop where
 own:OwnNods tn W w0.heap.size v c
 len:c.length=k
 zok:z.Ok maxLen w0
 cok:∀ n,n∈c->n.Ok maxLen w0
 box:OwnNods tn W (b1+1) (.slice (some ⟨b1+1,0,none⟩) 1 1) [z]
 below:Below w0.heap.size w0 W
 ent:EntAt W b1 0 x
 apart:∀ j,v.ownBlock=some j->j<b1
 wb:w0.heap.size<=b1
 lt:b1+1<W.heap.size
theorem RefSt.made {te tn : TypeId} {w0 wr : World} {k : Nat} {v : Value} {x : Ent} {c : List Nod} (hx : x.Ok maxLen w0) (hown : OwnNods tn wr w0.heap.size v c) (hl : c.length = k) (hc : ∀ n,n ∈ c → n.Ok maxLen w0) (hb : Below w0.heap.size w0 wr) :
 RefSt tn w0 ((wr.alloc (entBox te x)).alloc (nodBox tn (x.nod 0))) k wr.heap.size v x (x.nod 0) c:=by
 have h1:Below wr.heap.size wr (wr.alloc (entBox te x)):=(Below.refl _ _).alloc (Nat.le_refl _) _
 have hs:(wr.alloc (entBox te x)).heap.size=wr.heap.size+1:=by simp
 have h2:Below wr.heap.size wr ((wr.alloc (entBox te x)).alloc (nodBox tn (x.nod 0))):=h1.alloc (by omega) _
 have hz:=Ent.nod_ok hx (s:=0) (by unfold i64;omega)
 refine ⟨hown.below h2,hl,hz,hc,?_,hb.trans (h2.mono hb.size),(entAt_box wr x te).below ((Below.refl _ _).alloc (Nat.le_refl _) _),fun j hj=>(World.ownsRow.lt hown.1 j hj).2,hb.size,by simp⟩
 have:=box_own (t:=tn) (w0:=w0) (w:=wr.alloc (entBox te x)) (x:=x.nod 0) hz (hb.trans (h1.mono hb.size))
 rw [hs] at this
 exact this
theorem RefSt.onto {tn : TypeId} {w0 W W' : World} {k b1 : Nat} {v : Value} {x : Ent} {z : Nod} {c : List Nod} (h : RefSt tn w0 W k b1 v x z c) (hb : Below W.heap.size W W') : RefSt tn w0 W' k b1 v x z c :=
 ⟨h.own.below hb,h.len,h.zok,h.cok,h.box.below hb,h.below.trans (hb.mono h.below.size),h.ent.below hb,h.apart,h.wb,Nat.lt_of_lt_of_le h.lt hb.size⟩
theorem RefSt.put {tn : TypeId} {w0 W : World} {k b1 : Nat} {v : Value} {x : Ent} {z : Nod} {c : List Nod} (h : RefSt tn w0 W k b1 v x z c) {j : Nat} (hj : j < 12) (z' : Nod) (u : Value) (hz : z'.cells = z.cells.set j u) (hok : z'.Ok maxLen w0) :
 RefSt tn w0 (W.setCell ⟨b1+1,j,none⟩ u) k b1 v x z' c:=by
 have hwb:=h.wb
 have hg:W.grownBy (W.setCell ⟨b1+1,j,none⟩ u) (some (b1+1)):=grownBy_setCell _ _ _ _
 have hb:Below w0.heap.size w0 (W.setCell ⟨b1+1,j,none⟩ u):=h.below.grown hg h.below.size (fun i hi=>by cases hi;omega)
 have hp:=OwnNods.put (l:=[z]) (k:=0) (j:=j) h.box (by simp) hj z' u hz (nodIn_ok hok h.below h.box (by omega))
 simp only [Nat.zero_mul,Nat.zero_add,List.set_cons_zero] at hp
 exact ⟨own_kept h.own hg (.inr (fun e=>by have:=h.apart _ e;omega)) h.cok hb,h.len,hok,h.cok,hp.1,hb,h.ent.grown hg (by simp),h.apart,h.wb,by simpa using h.lt⟩
theorem RefSt.cells {tn : TypeId} {w0 W : World} {k b1 : Nat} {v : Value} {x : Ent} {z : Nod} {c : List Nod} (h : RefSt tn w0 W k b1 v x z c) : NodAt W (b1 + 1) 0 z := by
 have:=h.box.nodAtN rfl (k:=0) (by omega)
 simp only [Nat.zero_mul] at this
 exact this
theorem RefSt.free {tn : TypeId} {w0 W : World} {k b1 : Nat} {v : Value} {x : Ent} {z : Nod} {c : List Nod} (h : RefSt tn w0 W k b1 v x z c) (j : Nat) : W.frozen? ⟨b1 + 1,j,none⟩ = false := h.box.1.frozenAt j
def sameAt (l : List Ent) (k j : Nat) : Int := if linkedTo l k j = true then (k : Int) + 1 else 0
def tells (l : List Ent) (k j : Nat) : Bool := decide ((ek l j).kind = 4) && ((ek l j).target.toList == (ek l k).path.toList) && decide ((ek l k).kind = 1)
theorem sameAt_yes {l : List Ent} {k j : Nat} (h : tells l k j = true) : sameAt l k (j + 1) = (k : Int) + 1 := by
 unfold sameAt
 rw [linkedTo_succ,if_pos]
 unfold tells at h
 rw [h,Bool.or_true]
theorem sameAt_no {l : List Ent} {k j : Nat} (h : tells l k j = false) : sameAt l k (j + 1) = sameAt l k j := by
 unfold sameAt
 rw [linkedTo_succ]
 unfold tells at h
 rw [h,Bool.or_false]
end Go.Creel
namespace Go.Proofs.YtaffgndickdbiaaGreatDoor
open Go.Creel Go.RowKit
set_option maxRecDepth 100000 in
set_option maxHeartbeats 8000000 in
theorem GrowR_at (b off cap : Nat) (l : List Ent) (w : World) (hpos : 0 < l.length) (hle : l.length ≤ cap) (hm : cap ≤ maxLen) (hc : EntsAt w b off l) (hok : ∀ i,i < l.length → (ek l i).Ok maxLen w) (h : SliceC maxLen 11 (EntC maxLen) w [.slice (some ⟨b,off,none⟩) l.length cap] l) :
 Calls Tryz.prog 65 #[.slice (some ⟨b,off,none⟩) l.length cap] w (RetTE 99 w (grown l)):=by
 obtain ⟨i0,hi,hz0,hz1,hz2⟩:=info_parts info_node
 have HI:=Lib.hid (And.intro hi (And.intro hz0 (And.intro hz1 hz2)))
 have H:=Lib.hid h
 have HC:=Lib.hid hc
 have HK:=Lib.hid hok
 have hml:cap<=maxLen:=hm
 have HEQ:=Lib.hid (fun (s:ByteArray) (W:World) (hb:Below w.heap.size w W)=>EntryAt_at b off cap l s W hle hml (hc.below hb))
 unfold maxLen at hm
 clear h hc hok hi hz0 hz1 hz2 hml
 by_cases hE:entsFault l=0
 ·have HF:=Lib.hid (grown_ok hE)
  have hfew:=(entsFault_all hE).1
  have HZ:=Lib.hid hE
  have HD:=Lib.hid (growL_dat hE)
  have HGO:=Lib.hid (fun (q:Nat) (hq:q<=l.length)=>refG_ok (w:=w) hE HK.out hq)
  clear hE
  go_enter Tryz.func65,Tryz.ntmps65
  go_wp2_with fail
  refine (EntsFault_any _ l _ H.out).mono ?_
  rintro e w1 ⟨rfl,hb⟩
  rw [HZ.out]
  have HB1:=Lib.hid hb
  clear hb
  go_wp2
  go_loopw [5,6,7,8,10,11,19] (fun v _ _ _ _ _ i wr=>∃ k:Nat,k<=l.length/\i = .int .i64 k/\Hid (OwnNods 99 wr w.heap.size v (refG l k))/\Hid (Below w.heap.size w wr)) (fun _ _ _ _ _ _ i _=>l.length-(intOf i).toNat)
  case atStart=>exact ⟨0,by omega,rfl,Lib.hid (OwnNods.nil _ _ _),HB1⟩
  case round =>
   obtain ⟨k,hk,rfl,HO,HB⟩:=hrel
   by_cases hlt:k<l.length
   ·obtain ⟨h0,h1,h2,h3,h4,h5,h6,h7,h8,h9,h10⟩:=(HC.out.below HB.out) k hlt
    have HX:=Lib.hid (HK.out k hlt)
    have HLI:=Lib.hid (fun h=>ref_link HZ.out hlt h)
    have HSU:=Lib.hid (refG_succ l k)
    have HNF:=Lib.hid (fun (h:¬ (ek l k).kind=4)=>growN_file (q:=l.length) h)
    have HNO:=Lib.hid (growN_ok (w:=w) HZ.out HK.out (q:=l.length) hlt)
    have HCO:=Lib.hid (HGO.out k hk)
    have hkk:=HX.out.kind
    generalize hx:ek l k=x at *
    have HEX:=Lib.hid hx
    clear hx
    have HRS:Hid (RefSt 99 w ((wr.alloc (.cells #[.string x.path,.int .i64 x.kind,.string x.target,.int .i64 x.mt.mode,.int .i64 x.mt.uid,.int .i64 x.mt.gid,.string x.mt.user,.string x.mt.group,.int .i64 x.mt.second,.int .i64 x.mt.nano,.slice x.da x.data.length x.dcap] 26)).alloc (.cells #[.string x.path,.int .i64 x.kind,.int .i64 0,.string x.target,.int .i64 x.mt.mode,.int .i64 x.mt.uid,.int .i64 x.mt.gid,.string x.mt.user,.string x.mt.group,.int .i64 x.mt.second,.int .i64 x.mt.nano,.slice x.da x.data.length x.dcap] 99)) k wr.heap.size u5 x (x.nod 0) (refG l k)):=Lib.hid (RefSt.made (te:=26) HX.out HO.out (refG_len l k) HCO.out HB.out)
    go_upto_region 9 with fail
    generalize World.alloc (World.alloc wr _) _=w2 at *
    generalize wr.heap.size=b1 at *
    clear h0 h1 h2 h3 h4 h5 h6 h7 h8 h9 h10
    go_wp2
    go_loopw [10,37] (fun _ i W=>∃ j:Nat,j<=l.length/\i = .int .i64 j/\Hid (RefSt 99 w W k b1 u5 x (x.nod (sameAt l k j)) (refG l k))) (fun _ i _=>l.length-(intOf i).toNat)
    case atStart=>exact ⟨0,by omega,rfl,HRS⟩
    case round =>
     obtain ⟨j,hj,rfl,HR⟩:=hrel
     by_cases hjl:j<l.length
     ·obtain ⟨h0,h1,h2,h3,h4,h5,h6,h7,h8,h9,h10⟩:=(HC.out.below HR.out.below) j hjl
      have HTY:=Lib.hid (fun (h:tells l k j=true)=>sameAt_yes h)
      have HTN:=Lib.hid (fun (h:tells l k j=false)=>sameAt_no h)
      have HTD:Hid (tells l k j=(decide ((ek l j).kind=4)&&((ek l j).target.toList==x.path.toList)&&decide (x.kind=1))):=Lib.hid (by unfold tells;rw [HEX.out])
      have HYB:=Lib.hid (HR.out.onto ((Below.refl wr.heap.size wr).alloc (Nat.le_refl _) (.cells #[.string (ek l j).path,.int .i64 (ek l j).kind,.string (ek l j).target,.int .i64 (ek l j).mt.mode,.int .i64 (ek l j).mt.uid,.int .i64 (ek l j).mt.gid,.string (ek l j).mt.user,.string (ek l j).mt.group,.int .i64 (ek l j).mt.second,.int .i64 (ek l j).mt.nano,.slice (ek l j).da (ek l j).data.length (ek l j).dcap] 26)))
      have HYA:=Lib.hid (entAt_box wr (ek l j) 26)
      generalize ek l j=y at *
      go_upto_region 12 with fail
      generalize World.alloc wr _=W2 at *
      generalize wr.heap.size=by_ at *
      obtain ⟨y0,y1,y2,y3,y4,y5,y6,y7,y8,y9,y10⟩:=HYA.out.zero
      obtain ⟨e0,e1,e2,e3,e4,e5,e6,e7,e8,e9,e10⟩:=HYB.out.ent.zero
      clear h0 h1 h2 h3 h4 h5 h6 h7 h8 h9 h10 y3 y4 y5 y6 y7 y8 y9 y10 e2 e3 e4 e5 e6 e7 e8 e9 e10
      go_cut [55] from 41 to 55 (fun c wx=>∃ cb,c = .bool cb/\Hid (tells l k j=cb)/\wx=W2)
      case first =>
       by_cases hy4:y.kind=4
       ·have hq1:(y.kind==4)=true:=by rw [beq_iff_eq];exact hy4
        by_cases hyt:y.target=x.path
        ·have hq2:=seq_t hyt
         by_cases hx1:x.kind=1
         ·have hq3:(x.kind==1)=true:=by rw [beq_iff_eq];exact hx1
          have HQ:=Lib.hid (show tells l k j=true by rw [HTD.out,decide_eq_true hy4,hq2,decide_eq_true hx1];rfl)
          clear hy4 hyt hx1
          go_wp2
          go_meet
          exact ⟨_,rfl,HQ,rfl⟩
         ·have hq3:(x.kind==1)=false:=by rw [beq_eq_false_iff_ne];exact hx1
          have HQ:=Lib.hid (show tells l k j=false by rw [HTD.out,decide_eq_false hx1];simp)
          clear hy4 hyt hx1
          go_wp2
          go_meet
          exact ⟨_,rfl,HQ,rfl⟩
        ·have hq2:=seq_f hyt
         have HQ:=Lib.hid (show tells l k j=false by rw [HTD.out,hq2];simp)
         clear hy4 hyt
         go_wp2
         go_meet
         exact ⟨_,rfl,HQ,rfl⟩
       ·have hq1:(y.kind==4)=false:=by rw [beq_eq_false_iff_ne];exact hy4
        have HQ:=Lib.hid (show tells l k j=false by rw [HTD.out,decide_eq_false hy4];simp)
        clear hy4
        go_wp2
        go_meet
        exact ⟨_,rfl,HQ,rfl⟩
      case rest =>
       obtain ⟨cb,rfl,HCB,rfl⟩:=hcut
       cases cb with
       | true =>
         have HPT:=Lib.hid (HYB.out.put (j:=2) (by omega) (x.nod ((k:Int)+1)) (.int .i64 ((k:Int)+1)) rfl (Ent.nod_ok HX.out (by unfold i64;omega)))
         obtain ⟨d0,d1,d2,d3,d4,d5,d6,d7,d8,d9,d10,d11⟩:=HYB.out.cells
         have f2:=HYB.out.free 2
         simp only [Nat.zero_add] at d2
         clear d0 d1 d3 d4 d5 d6 d7 d8 d9 d10 d11
         have HS:=Lib.hid (HTY.out HCB.out)
         go_wp2
         go_roundw
         case rel=>exact ⟨j+1,by omega,by go_num,Lib.hid (by rw [HS.out];exact HPT.out)⟩
         case measure=>simp [intOf];omega
       | false =>
         have HS:=Lib.hid (HTN.out HCB.out)
         go_wp2
         go_roundw
         case rel=>exact ⟨j+1,by omega,by go_num,Lib.hid (by rw [HS.out];exact HYB.out)⟩
         case measure=>simp [intOf];omega
     ·obtain rfl:j=l.length:=by omega
      obtain ⟨e0,e1,e2,e3,e4,e5,e6,e7,e8,e9,e10⟩:=HR.out.ent.zero
      go_upto_if 62 with fail
      generalize hkb:(x.kind==4)=kb at *
      have HKB:=Lib.hid hkb
      clear hkb
      go_cut [11] from 63 to 77 (fun _ wx=>Hid (RefSt 99 w wx k b1 u5 x (growN l l.length k) (refG l k)))
      case first =>
       cases kb with
       | true =>
         have hk4:x.kind=4:=by have:=HKB.out;rwa [beq_iff_eq] at this
         obtain ⟨hq,hgn⟩:=HLI.out hk4
         have HGN:=Lib.hid hgn
         have HCE:=Lib.hid (HEQ.out x.target wr HR.out.below)
         have HKQ:=Lib.hid (HK.out _ hq)
         clear hk4 hgn
         generalize entFind l x.target=q at *
         obtain ⟨d0,d1,d2,d3,d4,d5,d6,d7,d8,d9,d10,d11⟩:=HR.out.cells
         have f1:=HR.out.free 1
         simp only [Nat.zero_add] at d1
         clear d0 d2 d3 d4 d5 d6 d7 d8 d9 d10 d11
         go_upto_region 17 with (go_at_call 63;refine HCE.out.mono ?_;rintro e w' ⟨rfl,rfl⟩)
         have hz0:=HR.out.zok
         have H17:=Lib.hid (HR.out.put (j:=1) (by omega) ⟨x.path,1,sameAt l k l.length,x.target,x.mt,x.da,x.dcap,x.data⟩ (.int .i64 1) rfl ⟨hz0.path,(show i64 (1:Int) by unfold i64;omega),hz0.same,hz0.target,hz0.mt,hz0.data⟩)
         go_cut [] from 67 to 67 (fun wx=>Hid (RefSt 99 w wx k b1 u5 x ⟨x.path,1,sameAt l k l.length,x.target,x.mt,x.da,x.dcap,x.data⟩ (refG l k)))
         case first =>
          clear hz0
          go_wp2
          go_meet
          exact H17
         case rest =>
          clear H17 d1 f1 e0 e1 e2 e3 e4 e5 e6 e7 e8 e9 e10
          have HR1:=hcut
          clear hcut
          obtain ⟨d0,d1,d2,d3,d4,d5,d6,d7,d8,d9,d10,d11⟩:=HR1.out.cells
          have f3:=HR1.out.free 3
          simp only [Nat.zero_add] at d3
          clear d0 d1 d2 d4 d5 d6 d7 d8 d9 d10 d11
          have H18:=Lib.hid (HR1.out.put (j:=3) (by omega) ⟨x.path,1,sameAt l k l.length,ByteArray.empty,x.mt,x.da,x.dcap,x.data⟩ (.string ByteArray.empty) rfl ⟨hz0.path,(show i64 (1:Int) by unfold i64;omega),hz0.same,by simp [maxLen],hz0.mt,hz0.data⟩)
          go_upto_region 18 with fail
          go_cut [] from 68 to 68 (fun wx=>Hid (RefSt 99 w wx k b1 u5 x ⟨x.path,1,sameAt l k l.length,ByteArray.empty,x.mt,x.da,x.dcap,x.data⟩ (refG l k)))
          case first =>
           clear hz0
           go_wp2
           go_meet
           exact H18
          case rest =>
           clear H18 d3 f3
           have HR2:=hcut
           clear hcut
           obtain ⟨d0,d1,d2,d3,d4,d5,d6,d7,d8,d9,d10,d11⟩:=HR2.out.cells
           have f2:=HR2.out.free 2
           simp only [Nat.zero_add] at d2
           clear d0 d1 d3 d4 d5 d6 d7 d8 d9 d10 d11
           have H19:=Lib.hid (HR2.out.put (j:=2) (by omega) ⟨x.path,1,(q:Int)+1,ByteArray.empty,x.mt,x.da,x.dcap,x.data⟩ (.int .i64 ((q:Int)+1)) rfl ⟨hz0.path,(show i64 (1:Int) by unfold i64;omega),(show i64 ((q:Int)+1) by unfold i64;omega),by simp [maxLen],hz0.mt,hz0.data⟩)
           go_upto_region 19 with fail
           go_cut [] from 69 to 71 (fun wx=>Hid (RefSt 99 w wx k b1 u5 x ⟨x.path,1,(q:Int)+1,ByteArray.empty,x.mt,x.da,x.dcap,x.data⟩ (refG l k)))
           case first =>
            clear hz0
            go_wp2
            go_meet
            exact H19
           case rest =>
            clear H19 d2 f2
            have HR3:=hcut
            clear hcut
            obtain ⟨d0,d1,d2,d3,d4,d5,d6,d7,d8,d9,d10,d11⟩:=HR3.out.cells
            have f11:=HR3.out.free 11
            simp only [Nat.zero_add] at d11
            clear d0 d1 d2 d3 d4 d5 d6 d7 d8 d9 d10
            obtain ⟨g0,g1,g2,g3,g4,g5,g6,g7,g8,g9,g10⟩:=(HC.out.below HR3.out.below) q hq
            clear g0 g1 g2 g3 g4 g5 g6 g7 g8 g9
            have H20:=Lib.hid (HR3.out.put (j:=11) (by omega) ⟨x.path,1,(q:Int)+1,ByteArray.empty,x.mt,(ek l q).da,(ek l q).dcap,(ek l q).data⟩ (.slice (ek l q).da (ek l q).data.length (ek l q).dcap) rfl ⟨hz0.path,(show i64 (1:Int) by unfold i64;omega),(show i64 ((q:Int)+1) by unfold i64;omega),by simp [maxLen],hz0.mt,HKQ.out.data⟩)
            rw [<-HGN.out] at H20
            clear hz0
            go_wp2
            go_meet
            exact H20
       | false =>
         have hk4:¬ x.kind=4:=by have:=HKB.out;rwa [beq_eq_false_iff_ne] at this
         have HQ:=Lib.hid (HNF.out hk4)
         clear hk4
         go_wp2
         go_meet
         exact Lib.hid (by rw [HQ.out];exact HR.out)
      case rest =>
       have HRZ:=hcut
       clear hcut e0 e1 e2 e3 e4 e5 e6 e7 e8 e9 e10 HR HLI HNF
       generalize growN l l.length k=z at *
       have HBA:=Lib.hid ((Below.refl wc.heap.size wc).alloc (Nat.le_refl _) (nodBox 99 z))
       have HR7:=Lib.hid (HRZ.out.onto HBA.out)
       have HI7:=Lib.hid (nodIn_ok HRZ.out.zok HR7.out.below HR7.out.own (Nat.le_refl _))
       have HMS7:=Lib.hid HR7.out.below.size
       have HO7:=Lib.hid HR7.out.own
       have HB7:=Lib.hid HR7.out.below
       have hcl:=refG_len l k
       obtain ⟨d0,d1,d2,d3,d4,d5,d6,d7,d8,d9,d10,d11⟩:=HRZ.out.cells
       simp only [Nat.zero_add] at d0 d1 d2 d3 d4 d5 d6 d7 d8 d9 d10 d11
       generalize refG l k=c at *
       go_wp2_with (at_builtin;refine wpList_app _ rfl (.tmp 78) (.tmp 80) 51 51 rfl _ _ rfl rfl (fun ty=>app_src _ 51 51 ty w.heap.size 99 i0 _ 12 144 Tryz.underlying51 HI.out.1 HI.out.2.1 HI.out.2.2.1 HI.out.2.2.2 rfl (by decide) _ _ c.length 1 _ _ HO7.out.1 (src_nod_at wc rfl _ _ _ Tryz.underlying51 z) (by unfold maxLen;omega) (by omega) HMS7.out) ?_;intro v2 w8 ho2 hg2 hv2;have HZZ:=Lib.hid (And.intro ho2 (And.intro hg2 hv2));clear ho2 hg2 hv2)
       have HO8:=Lib.hid (HO7.out.app (m:=[z]) (fun y hy=>by rw [List.mem_singleton.1 hy];exact HI7.out) HZZ.out.1 HZZ.out.2.1 HZZ.out.2.2.2)
       have HB8:=Lib.hid (below_app HB7.out HZZ.out.2.1 HO7.out.1 HB7.out.size)
       go_wp2
       go_roundw
       case rel=>exact ⟨k+1,by omega,by go_num,Lib.hid (by rw [HSU.out];exact HO8.out),HB8⟩
       case measure=>simp [intOf];omega
   ·obtain rfl:k=l.length:=by omega
    go_wp2_with fail
    refine (CopyR_any _ (treeGrown l) _ (HO.out.slice (by rw [refG_len];unfold maxLen;omega)) (by unfold treeGrown;rw [growL_len];omega) HD.out).mono ?_
    rintro e w5 ⟨v5,c,rfl,ho,hcb,hb⟩
    have HO5:=Lib.hid (ho.mono HB.out.size)
    have HB5:=Lib.hid (HB.out.trans (hb.mono HB.out.size))
    have HC5:=Lib.hid hcb
    clear ho hb hcb
    go_wp2
    go_ret2
    rw [HF.out]
    exact ⟨_,c,rfl,HO5.out,HC5.out,HB5.out⟩
 ·have HF:=Lib.hid (grown_bad hE)
  have HE:=Lib.hid hE
  clear hE
  go_enter Tryz.func65,Tryz.ntmps65
  go_wp2_with fail
  refine (EntsFault_any _ l _ H.out).mono ?_
  rintro e w1 ⟨rfl,hb⟩
  have HB1:=Lib.hid hb
  have hne:=HE.out
  clear hb
  generalize entsFault l=q at *
  go_wp2
  go_ret2
  rw [HF.out]
  exact ⟨_,[],rfl,OwnNods.nil _ _ _,rfl,HB1.out⟩
set_option maxRecDepth 100000 in
set_option maxHeartbeats 2000000 in
theorem GrowR_nil (a : Option Addr) (cap : Nat) (w : World) (h : SliceC maxLen 11 (EntC maxLen) w [.slice a 0 cap] []) :
 Calls Tryz.prog 65 #[.slice a 0 cap] w (RetTE 99 w (grown [])):=by
 have HF:=Lib.hid (show grown []=([],0) from grown_ok entsFault_nil)
 have H:=Lib.hid h
 clear h
 go_enter Tryz.func65,Tryz.ntmps65
 go_wp2_with fail
 refine (EntsFault_any _ [] _ H.out).mono ?_
 rintro e w1 ⟨rfl,hb⟩
 rw [entsFault_nil]
 have HMB:=Lib.hid hb
 clear hb
 go_wp2
 go_loop [5,6,7,8,10,11,19] (fun v _ _ _ _ _ i=>v = .slice none 0 0/\i = .int .i64 0) (fun _ _ _ _ _ _ _=>0)
 case atStart=>exact ⟨rfl,rfl⟩
 case round =>
  obtain ⟨rfl,rfl⟩:=hrel
  go_wp2_with fail
  refine (CopyR_nil none 0 _).mono ?_
  rintro e w5 ⟨v5,c,rfl,ho,hcb,hb⟩
  have HO5:=Lib.hid (ho.mono HMB.out.size)
  have HB5:=Lib.hid (HMB.out.trans (hb.mono HMB.out.size))
  have HC5:=Lib.hid hcb
  clear ho hb hcb
  go_wp2
  go_ret2
  rw [HF.out]
  exact ⟨_,c,rfl,HO5.out,HC5.out,HB5.out⟩
theorem GrowR_any (v : Value) (l : List Ent) (w : World) (h : SliceC maxLen 11 (EntC maxLen) w [v] l) :
 Calls Tryz.prog 65 #[v] w (RetTE 99 w (grown l)):=by
 rcases ents_cases h with ⟨a,cap,rfl,rfl,_⟩|⟨b,off,cap,rfl,h1,h2,h3,_,h4,h5⟩
 ·exact GrowR_nil a cap w h
 ·exact GrowR_at b off cap l w h1 h2 h3 h4 h5 h
end Go.Proofs.YtaffgndickdbiaaGreatDoor
namespace Go.Creel
open Go.RowKit
theorem linkAt_map (l : List Ent) (i : Nat) : linkAt (l.map Ent.bare) i = linkAt l i := by
 unfold linkAt
 rw [<-List.map_take,ek_map]
 exact entFind_map _ _
theorem linkedTo_map (l : List Ent) (i q : Nat) : linkedTo (l.map Ent.bare) i q = linkedTo l i q := by
 unfold linkedTo
 simp only [ek_map]
 rfl
theorem growN_map (l : List Ent) (q i : Nat) : growN (l.map Ent.bare) q i = (growN l q i).bare := by
 unfold growN
 rw [linkAt_map,linkedTo_map,ek_map,ek_map]
 by_cases h:(ek l i).kind=4
 ·rw [if_pos (show (ek l i).bare.kind=4 from h),if_pos h];rfl
 ·rw [if_neg (show ¬ (ek l i).bare.kind=4 from h),if_neg h];rfl
theorem treeGrown_map (l : List Ent) : treeGrown (l.map Ent.bare) = (treeGrown l).map Nod.bare := by
 unfold treeGrown growL
 rw [List.length_map,List.map_map]
 exact List.map_congr_left fun i _=>growN_map l l.length i
theorem grown_map (l : List Ent) : grown (l.map Ent.bare) = ((grown l).1.map Nod.bare,(grown l).2) := by
 by_cases h:entsFault l=0
 ·rw [grown_ok (by rw [entsFault_map];exact h),grown_ok h,treeGrown_map]
 ·rw [grown_bad (by rw [entsFault_map];exact h),grown_bad h,entsFault_map];rfl
theorem grown_bare {l m : List Ent} (h : l.map Ent.bare = m.map Ent.bare) : (grown l).1.map Nod.bare = (grown m).1.map Nod.bare ∧ (grown l).2 = (grown m).2 := by
 have h1:=grown_map l
 have h2:=grown_map m
 rw [h,h2] at h1
 exact ⟨(congrArg Prod.fst h1).symm,(congrArg Prod.snd h1).symm⟩
theorem grown_len40 (l : List Ent) : (grown l).1.length ≤ 40 := by
 by_cases h:entsFault l=0
 ·rw [grown_ok h]
  show (treeGrown l).length<=_
  unfold treeGrown
  rw [growL_len]
  exact (entsFault_all h).1
 ·rw [grown_bad h];simp
theorem arcIn_len3 (b : List UInt8) : (arcIn b).1.length ≤ 40 := by
 unfold arcIn
 split
 ·simp
 ·split
  ·simp
  ·split
   ·simp
   ·rename_i h
    rcases Nat.lt_or_ge 40 (someOf b).1.length with h2|h2
    ·exact absurd (entsFault_many h2) (by intro e;exact h (by rw [e];decide))
    ·exact h2
noncomputable def restored (b : List UInt8) : List Nod × Int := if ¬ (arcIn b).2 = 0 then ([],(arcIn b).2) else grown (arcIn b).1
theorem restored_bad {b : List UInt8} {l : List Ent} {e : Int} (h : arcIn b = (l,e)) (he : ¬ e = 0) : restored b = ([],e) := by unfold restored; rw [h]; simp only; rw [if_pos he]
theorem restored_ok {b : List UInt8} {l : List Ent} {e : Int} (h : arcIn b = (l,e)) (he : e = 0) : restored b = grown l := by unfold restored; rw [h]; simp only; rw [if_neg (by simpa using he)]
theorem restored_len (b : List UInt8) : (restored b).1.length ≤ 40 := by
 unfold restored
 split
 ·simp
 ·exact grown_len40 _
end Go.Creel
namespace Go.Proofs.YtaffgndickdbiaaGreatDoor
open Go.Creel Go.RowKit
set_option maxRecDepth 100000 in
set_option maxHeartbeats 1000000 in
theorem ResT_any (v : Value) (b : List UInt8) (w : World) (h : SliceC maxLen 1 ByteC w [v] b) (hbl : b.length ≤ 1048576) (hM : MaxOk w) (hE : ErrsOk w) (hT : Pow10 w) :
 Calls Tryz.prog 29 #[v] w (RetTE 99 w (restored b)):=by
 have HAR:=Lib.hid (ArcIn_any v b w h hbl hM hE hT)
 have HM:=Lib.hid hM
 have hlen:=arcIn_len3 b
 obtain ⟨⟨l,e0⟩,hk⟩:∃ q,arcIn b=q:=⟨_,rfl⟩
 have HQ1:=Lib.hid (fun he=>restored_bad hk he)
 have HQ2:=Lib.hid (fun he=>restored_ok hk he)
 rw [hk] at HAR hlen
 simp only at hlen
 clear h hM hE hT hk
 go_enter Tryz.func29,Tryz.ntmps29
 go_wp2_with fail
 refine HAR.out.mono ?_
 rintro e w1 ⟨v1,l1,rfl,ho,hbr,_,hb⟩
 have HB1:=Lib.hid hb
 have HO1:=Lib.hid ho
 have HG:=Lib.hid (grown_bare hbr)
 have HLN:=Lib.hid (show l1.length<=maxLen by rw [bareE_len hbr];unfold maxLen;simp only;omega)
 clear ho hbr hb HAR
 by_cases he:e0=0
 ·have HF:=Lib.hid (HQ2.out he)
  subst he
  have HGR:=Lib.hid (GrowL_any v1 l1 w1 (HM.out.below HB1.out) (HO1.out.slice HLN.out))
  simp only at HG
  generalize grown l1=p1 at *
  generalize grown l=p at *
  obtain ⟨t1,f1⟩:=p1
  obtain ⟨t0,f0⟩:=p
  obtain ⟨hg1,hg2⟩:=HG.out
  simp only at hg1 hg2
  subst hg2
  have HG1:=Lib.hid hg1
  clear HQ1 HQ2 HG hg1
  go_wp2_with fail
  refine HGR.out.mono ?_
  rintro e w2 ⟨v2,c,rfl,ho,hc,hb⟩
  have HB2:=Lib.hid (HB1.out.trans (hb.mono HB1.out.size))
  have HO2:=Lib.hid (ho.mono HB1.out.size)
  have HC:=Lib.hid hc
  clear ho hc hb
  go_wp2
  go_ret2
  rw [HF.out]
  exact ⟨_,c,rfl,HO2.out,HC.out.trans HG1.out,HB2.out⟩
 ·have hq:(e0 != 0)=true:=by rw [bne_iff_ne];exact he
  have HF:=Lib.hid (HQ1.out he)
  clear HQ1 HQ2 he
  go_wp2
  go_ret2
  rw [HF.out]
  exact ⟨_,[],rfl,OwnNods.nil _ _ _,rfl,HB1.out⟩
set_option maxRecDepth 100000 in
set_option maxHeartbeats 1000000 in
theorem ResR_any (v : Value) (b : List UInt8) (w : World) (h : SliceC maxLen 1 ByteC w [v] b) (hbl : b.length ≤ 1048576) (hM : MaxOk w) (hE : ErrsOk w) (hT : Pow10 w) :
 Calls Tryz.prog 30 #[v] w (RetTE 99 w (restored b)):=by
 have HAR:=Lib.hid (ArcOf_any v b w h hbl hM hE hT)
 have hlen:=arcIn_len3 b
 obtain ⟨⟨l,e0⟩,hk⟩:∃ q,arcIn b=q:=⟨_,rfl⟩
 have HQ1:=Lib.hid (fun he=>restored_bad hk he)
 have HQ2:=Lib.hid (fun he=>restored_ok hk he)
 rw [hk] at HAR hlen
 simp only at hlen
 clear h hM hE hT hk
 go_enter Tryz.func30,Tryz.ntmps30
 go_wp2_with fail
 refine HAR.out.mono ?_
 rintro e w1 ⟨v1,l1,rfl,ho,hbr,_,hb⟩
 have HB1:=Lib.hid hb
 have HO1:=Lib.hid ho
 have HG:=Lib.hid (grown_bare hbr)
 have HLN:=Lib.hid (show l1.length<=maxLen by rw [bareE_len hbr];unfold maxLen;simp only;omega)
 clear ho hbr hb HAR
 by_cases he:e0=0
 ·have HF:=Lib.hid (HQ2.out he)
  subst he
  have HGR:=Lib.hid (GrowR_any v1 l1 w1 (HO1.out.slice HLN.out))
  simp only at HG
  generalize grown l1=p1 at *
  generalize grown l=p at *
  obtain ⟨t1,f1⟩:=p1
  obtain ⟨t0,f0⟩:=p
  obtain ⟨hg1,hg2⟩:=HG.out
  simp only at hg1 hg2
  subst hg2
  have HG1:=Lib.hid hg1
  clear HQ1 HQ2 HG hg1
  go_wp2_with fail
  refine HGR.out.mono ?_
  rintro e w2 ⟨v2,c,rfl,ho,hc,hb⟩
  have HB2:=Lib.hid (HB1.out.trans (hb.mono HB1.out.size))
  have HO2:=Lib.hid (ho.mono HB1.out.size)
  have HC:=Lib.hid hc
  clear ho hc hb
  go_wp2
  go_ret2
  rw [HF.out]
  exact ⟨_,c,rfl,HO2.out,HC.out.trans HG1.out,HB2.out⟩
 ·have hq:(e0 != 0)=true:=by rw [bne_iff_ne];exact he
  have HF:=Lib.hid (HQ1.out he)
  clear HQ1 HQ2 he
  go_wp2
  go_ret2
  rw [HF.out]
  exact ⟨_,[],rfl,OwnNods.nil _ _ _,rfl,HB1.out⟩
end Go.Proofs.YtaffgndickdbiaaGreatDoor
