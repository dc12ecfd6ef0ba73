/-
  Texts: MemOf.
-/
import Derived.Test.YtaffgndickdbiaaGreatDoorQ29
import Derived.Test.YtaffgndickdbiaaGreatDoorQ24
import Derived.Test.YtaffgndickdbiaaGreatDoorQ32
import Derived.Test.YtaffgndickdbiaaGreatDoorQ33
set_option linter.unusedVariables false
set_option linter.unusedSimpArgs false
set_option linter.unusedSectionVars false
namespace Go.Proofs.YtaffgndickdbiaaGreatDoor
open Go.Creel Go.RowKit
set_option maxRecDepth 100000 in
set_option maxHeartbeats 400000 in
theorem No_any (q : Int) (w : World) :
 Calls Tryz.prog 53 #[.int .i64 q] w fun e w'=>e = .returned (.tuple #[.agg #[.string ⟨#[]⟩,.int .i64 0,.string ⟨#[]⟩,.int .i64 0,.int .i64 0,.int .i64 0,.string ⟨#[]⟩,.string ⟨#[]⟩,.int .i64 0,.int .i64 0,.slice none 0 0],.int .i64 0,.int .i64 q])/\Below w.heap.size w w':=by
 have HBZ:=Lib.hid ((Below.refl w.heap.size w).alloc (Nat.le_refl _) (.cells #[.string ⟨#[]⟩,.int .i64 0,.string ⟨#[]⟩,.int .i64 0,.int .i64 0,.int .i64 0,.string ⟨#[]⟩,.string ⟨#[]⟩,.int .i64 0,.int .i64 0,.slice none 0 0] 26))
 go_enter Tryz.func53,Tryz.ntmps53
 go_wp2
 (try simp only [Exit.inBlock,Exit.then])
 refine bodyPost_ret (v := .tuple #[.agg #[.string ⟨#[]⟩,.int .i64 0,.string ⟨#[]⟩,.int .i64 0,.int .i64 0,.int .i64 0,.string ⟨#[]⟩,.string ⟨#[]⟩,.int .i64 0,.int .i64 0,.slice none 0 0],.int .i64 0,.int .i64 q]) (by rw [results_cell_t3 rfl];go_simp) rfl ?_
 exact ⟨rfl,HBZ.out⟩
set_option maxRecDepth 100000 in
set_option maxHeartbeats 1000000 in
theorem MemO_bad1 (v : Value) (b : List UInt8) (w : World) (h : SliceC maxLen 1 ByteC w [v] b) (hbl : b.length ≤ 1048576) (hE : ErrsOk w) (hT : Pow10 w) {h1 : HeadN} {d1 r1 : List UInt8} {e1 : Int} (hk : blockOf b = (h1,d1,r1,e1)) (he : ¬ e1 = 0) :
 Calls Tryz.prog 20 #[v] w (RetEnt w (memOf b)):=by
 obtain ⟨a,cap,hv,hcp⟩:=bytes_form h
 subst hv
 have HFI:=Lib.hid (fun W (hb:Below w.heap.size w W)=>First_any (.slice a b.length cap) b W (h.below (fun _ _ h=>h) hb) hbl)
 have HBZ:=Lib.hid ((Below.refl w.heap.size w).alloc (Nat.le_refl _) (.cells #[.string ⟨#[]⟩,.int .i64 0,.string ⟨#[]⟩,.int .i64 0,.int .i64 0,.int .i64 0,.string ⟨#[]⟩,.string ⟨#[]⟩,.int .i64 0,.int .i64 0,.slice none 0 0] 26))
 have HRZ:Hid ((w.alloc (.cells #[.string ⟨#[]⟩,.int .i64 0,.string ⟨#[]⟩,.int .i64 0,.int .i64 0,.int .i64 0,.string ⟨#[]⟩,.string ⟨#[]⟩,.int .i64 0,.int .i64 0,.slice none 0 0] 26)).heap[w.heap.size]?=some (.cells #[.string ⟨#[]⟩,.int .i64 0,.string ⟨#[]⟩,.int .i64 0,.int .i64 0,.int .i64 0,.string ⟨#[]⟩,.string ⟨#[]⟩,.int .i64 0,.int .i64 0,.slice none 0 0] 26 (0,0))):=Lib.hid (heap_alloc_new _ _)
 have HF:=Lib.hid (memOf_bad1 hk he)
 rw [firstOf_bad hk he] at HFI
 have hq:(e1 != 0)=true:=by rw [bne_iff_ne];exact he
 clear h hk he hE hT
 go_enter Tryz.func20,Tryz.ntmps20
 go_wp2_with fail
 refine (HFI.out _ HBZ.out).mono ?_
 rintro e w1 ⟨v1,rfl,ho1,hb⟩
 have HB1:=Lib.hid (HBZ.out.trans (hb.mono HBZ.out.size))
 have HR1:=Lib.hid ((hb.block _ (Array.getElem?_eq_some_iff.1 HRZ.out).1).trans HRZ.out)
 have hlr:=(Array.getElem?_eq_some_iff.1 HR1.out).1
 clear hb HRZ HBZ
 have HA:=Lib.hid ((Below.refl w1.heap.size w1).alloc (Nat.le_refl _) (.cells #[.string headNone.nm,.string headNone.px,.string headNone.lk,.int .i64 headNone.mode,.int .i64 headNone.uid,.int .i64 headNone.gid,.int .i64 headNone.size,.int .i64 headNone.time,.int .u8 headNone.typ.toNat,.string headNone.user,.string headNone.group] 62))
 have HB2:=Lib.hid (HB1.out.trans (HA.out.mono HB1.out.size))
 have HR2:=Lib.hid ((HA.out.block _ hlr).trans HR1.out)
 go_upto_region 4 with fail
 generalize w1.alloc (.cells #[.string headNone.nm,.string headNone.px,.string headNone.lk,.int .i64 headNone.mode,.int .i64 headNone.uid,.int .i64 headNone.gid,.int .i64 headNone.size,.int .i64 headNone.time,.int .u8 headNone.typ.toNat,.string headNone.user,.string headNone.group] 62)=w2 at *
 go_wp2_with fail
 refine (No_any e1 _).mono ?_
 rintro e wn1 ⟨rfl,hbn⟩
 have HBN:=Lib.hid (HB2.out.trans (hbn.mono HB2.out.size))
 have HRN:=Lib.hid ((hbn.block _ (Array.getElem?_eq_some_iff.1 (HR2.out)).1).trans (HR2.out))
 clear hbn
 obtain ⟨rn0,rn1,rn2,rn3,rn4,rn5,rn6,rn7,rn8,rn9,rn10⟩:=cells11 HRN.out
 obtain ⟨fn0,fn1,fn2,fn3,fn4,fn5,fn6,fn7,fn8,fn9,fn10⟩:=froz11 HRN.out
 go_wp2
 (try simp only [Exit.inBlock,Exit.then])
 refine bodyPost_ret (v := .tuple #[.agg #[.string ⟨#[]⟩,.int .i64 0,.string ⟨#[]⟩,.int .i64 0,.int .i64 0,.int .i64 0,.string ⟨#[]⟩,.string ⟨#[]⟩,.int .i64 0,.int .i64 0,.slice none 0 0],.int .i64 0,.int .i64 e1]) (by rw [results_cell_t3 rfl];go_simp) rfl ?_
 rw [HF.out]
 exact ⟨entNone,rfl,entNone_out _ _,(((((((((((HBN.out.setCell (p:=⟨w.heap.size,0,none⟩) (Nat.le_refl _) (.string ⟨#[]⟩)).setCell (p:=⟨w.heap.size,1,none⟩) (Nat.le_refl _) (.int .i64 0)).setCell (p:=⟨w.heap.size,2,none⟩) (Nat.le_refl _) (.string ⟨#[]⟩)).setCell (p:=⟨w.heap.size,3,none⟩) (Nat.le_refl _) (.int .i64 0)).setCell (p:=⟨w.heap.size,4,none⟩) (Nat.le_refl _) (.int .i64 0)).setCell (p:=⟨w.heap.size,5,none⟩) (Nat.le_refl _) (.int .i64 0)).setCell (p:=⟨w.heap.size,6,none⟩) (Nat.le_refl _) (.string ⟨#[]⟩)).setCell (p:=⟨w.heap.size,7,none⟩) (Nat.le_refl _) (.string ⟨#[]⟩)).setCell (p:=⟨w.heap.size,8,none⟩) (Nat.le_refl _) (.int .i64 0)).setCell (p:=⟨w.heap.size,9,none⟩) (Nat.le_refl _) (.int .i64 0)).setCell (p:=⟨w.heap.size,10,none⟩) (Nat.le_refl _) (.slice none 0 0))⟩
set_option maxRecDepth 100000 in
set_option maxHeartbeats 1000000 in
theorem MemO_bad2 (v : Value) (b : List UInt8) (w : World) (h : SliceC maxLen 1 ByteC w [v] b) (hbl : b.length ≤ 1048576) (hE : ErrsOk w) (hT : Pow10 w) {h1 : HeadN} {d1 r1 : List UInt8} (hk : blockOf b = (h1,d1,r1,0)) (ht : h1.typ = 120) {l : List Rec} {e2 : Int} (hp : paxOf (ofL d1) = (l,e2)) (he : ¬ e2 = 0) :
 Calls Tryz.prog 20 #[v] w (RetEnt w (memOf b)):=by
 obtain ⟨a,cap,hv,hcp⟩:=bytes_form h
 subst hv
 have HFI:=Lib.hid (fun W (hb:Below w.heap.size w W)=>First_any (.slice a b.length cap) b W (h.below (fun _ _ h=>h) hb) hbl)
 have HBZ:=Lib.hid ((Below.refl w.heap.size w).alloc (Nat.le_refl _) (.cells #[.string ⟨#[]⟩,.int .i64 0,.string ⟨#[]⟩,.int .i64 0,.int .i64 0,.int .i64 0,.string ⟨#[]⟩,.string ⟨#[]⟩,.int .i64 0,.int .i64 0,.slice none 0 0] 26))
 have HRZ:Hid ((w.alloc (.cells #[.string ⟨#[]⟩,.int .i64 0,.string ⟨#[]⟩,.int .i64 0,.int .i64 0,.int .i64 0,.string ⟨#[]⟩,.string ⟨#[]⟩,.int .i64 0,.int .i64 0,.slice none 0 0] 26)).heap[w.heap.size]?=some (.cells #[.string ⟨#[]⟩,.int .i64 0,.string ⟨#[]⟩,.int .i64 0,.int .i64 0,.int .i64 0,.string ⟨#[]⟩,.string ⟨#[]⟩,.int .i64 0,.int .i64 0,.slice none 0 0] 26 (0,0))):=Lib.hid (heap_alloc_new _ _)
 have hty:((h1.typ.toNat:Int)==120)=true:=by rw [ht];rfl
 have HF:=Lib.hid (memOf_bad2 hk ht hp he)
 have HK:=Lib.hid hk
 have HT:=Lib.hid hT
 rw [firstOf_ok hk] at HFI
 have hq:(e2 != 0)=true:=by rw [bne_iff_ne];exact he
 clear h hk he hE hT ht
 go_enter Tryz.func20,Tryz.ntmps20
 go_wp2_with fail
 refine (HFI.out _ HBZ.out).mono ?_
 rintro e w1 ⟨v1,rfl,ho1,hb⟩
 have HB1:=Lib.hid (HBZ.out.trans (hb.mono HBZ.out.size))
 have HR1:=Lib.hid ((hb.block _ (Array.getElem?_eq_some_iff.1 HRZ.out).1).trans HRZ.out)
 have hlr:=(Array.getElem?_eq_some_iff.1 HR1.out).1
 clear hb HRZ HBZ
 obtain ⟨a1,c1,rfl,hp1⟩:=ho1.place
 have hl1:=blockOf_len HK.out rfl
 have HS1:=Lib.hid (ho1.slice (N:=maxLen) (Nat.le_trans (Nat.le_trans hl1.1 hbl) (by unfold maxLen;decide)))
 have HP1:=Lib.hid hp1
 clear ho1 hp1
 go_upto_region 5 with fail
 have HA:=Lib.hid ((Below.refl w1.heap.size w1).alloc (Nat.le_refl _) (.cells #[.string h1.nm,.string h1.px,.string h1.lk,.int .i64 h1.mode,.int .i64 h1.uid,.int .i64 h1.gid,.int .i64 h1.size,.int .i64 h1.time,.int .u8 h1.typ.toNat,.string h1.user,.string h1.group] 62))
 have HB2:=Lib.hid (HB1.out.trans (HA.out.mono HB1.out.size))
 have HD2:Hid ((w1.alloc (.cells #[.string h1.nm,.string h1.px,.string h1.lk,.int .i64 h1.mode,.int .i64 h1.uid,.int .i64 h1.gid,.int .i64 h1.size,.int .i64 h1.time,.int .u8 h1.typ.toNat,.string h1.user,.string h1.group] 62)).heap[w1.heap.size]?=some (.cells #[.string h1.nm,.string h1.px,.string h1.lk,.int .i64 h1.mode,.int .i64 h1.uid,.int .i64 h1.gid,.int .i64 h1.size,.int .i64 h1.time,.int .u8 h1.typ.toNat,.string h1.user,.string h1.group] 62 (0,0))):=Lib.hid (heap_alloc_new _ _)
 have HR2:=Lib.hid ((HA.out.block _ hlr).trans HR1.out)
 have HS2:=Lib.hid (bytesBelow HS1.out HA.out)
 have HP2:Hid (∀ p,a1=some p->w.heap.size<p.block/\p.block<w1.heap.size):=Lib.hid (fun p hp=>⟨by have:=(HP1.out p hp).1;simp at this;omega,(HP1.out p hp).2⟩)
 have hne:w.heap.size<w1.heap.size:=hlr
 generalize w1.heap.size=bh at *
 generalize w1.alloc (.cells #[.string h1.nm,.string h1.px,.string h1.lk,.int .i64 h1.mode,.int .i64 h1.uid,.int .i64 h1.gid,.int .i64 h1.size,.int .i64 h1.time,.int .u8 h1.typ.toNat,.string h1.user,.string h1.group] 62)=w2 at *
 clear HA HB1 HR1 HS1 HP1 hlr
 have hmm := @run_makeMap Tryz.prog
 go_upto_region 6 with fail
 have HA:=Lib.hid ((Below.refl w2.heap.size w2).alloc (Nat.le_refl _) (.map #[] 0))
 have HB3:=Lib.hid (HB2.out.trans (HA.out.mono HB2.out.size))
 have HD3:=Lib.hid ((HA.out.block _ (Array.getElem?_eq_some_iff.1 HD2.out).1).trans HD2.out)
 have HR3:=Lib.hid ((HA.out.block _ (Array.getElem?_eq_some_iff.1 HR2.out).1).trans HR2.out)
 have HS3:=Lib.hid (bytesBelow HS2.out HA.out)
 have HM3:=Lib.hid (MapB.made (fun s:ByteArray=>Value.string s) w2)
 have hbm:bh<w2.heap.size:=(Array.getElem?_eq_some_iff.1 HD2.out).1
 generalize w2.heap.size=bm at *
 generalize w2.alloc (.map #[] 0)=w3 at *
 clear HA HB2 HD2 HR2 HS2 hmm
 have k8:w3.cell? ⟨bh,8,none⟩=some (.int .u8 h1.typ.toNat):=cellAt HD3.out rfl
 have hcv:=conv w3 HS3.out
 have HPX:=Lib.hid (PaxOf_any (ofL d1) w3 (by rw [ofL_size];exact Nat.le_trans hl1.1 hbl) (HT.out.below HB3.out))
 rw [hp] at HPX
 go_wp2_with fail
 refine HPX.out.mono ?_
 rintro e w4 ⟨v3,rfl,ho3,hb4⟩
 have HB4:=Lib.hid (HB3.out.trans (hb4.mono HB3.out.size))
 have HR4:=Lib.hid ((hb4.block _ (Array.getElem?_eq_some_iff.1 HR3.out).1).trans HR3.out)
 have HD4:=Lib.hid ((hb4.block _ (Array.getElem?_eq_some_iff.1 HD3.out).1).trans HD3.out)
 have HM4:=Lib.hid (HM3.out.below hb4 HM3.out.lt)
 have HO4:=Lib.hid ho3
 have hbm4:bm<w3.heap.size:=HM3.out.lt
 have hw34:w3.heap.size<=w4.heap.size:=hb4.size
 clear hcv HPX hb4 ho3 HB3 HR3 HD3 HM3
 go_wp2_with fail
 refine (No_any e2 _).mono ?_
 rintro e wn2 ⟨rfl,hbn⟩
 have HBN:=Lib.hid (HB4.out.trans (hbn.mono HB4.out.size))
 have HRN:=Lib.hid ((hbn.block _ (Array.getElem?_eq_some_iff.1 (HR4.out)).1).trans (HR4.out))
 clear hbn
 obtain ⟨rn0,rn1,rn2,rn3,rn4,rn5,rn6,rn7,rn8,rn9,rn10⟩:=cells11 HRN.out
 obtain ⟨fn0,fn1,fn2,fn3,fn4,fn5,fn6,fn7,fn8,fn9,fn10⟩:=froz11 HRN.out
 go_wp2
 (try simp only [Exit.inBlock,Exit.then])
 refine bodyPost_ret (v := .tuple #[.agg #[.string ⟨#[]⟩,.int .i64 0,.string ⟨#[]⟩,.int .i64 0,.int .i64 0,.int .i64 0,.string ⟨#[]⟩,.string ⟨#[]⟩,.int .i64 0,.int .i64 0,.slice none 0 0],.int .i64 0,.int .i64 e2]) (by rw [results_cell_t3 rfl];go_simp) rfl ?_
 rw [HF.out]
 exact ⟨entNone,rfl,entNone_out _ _,(((((((((((HBN.out.setCell (p:=⟨w.heap.size,0,none⟩) (Nat.le_refl _) (.string ⟨#[]⟩)).setCell (p:=⟨w.heap.size,1,none⟩) (Nat.le_refl _) (.int .i64 0)).setCell (p:=⟨w.heap.size,2,none⟩) (Nat.le_refl _) (.string ⟨#[]⟩)).setCell (p:=⟨w.heap.size,3,none⟩) (Nat.le_refl _) (.int .i64 0)).setCell (p:=⟨w.heap.size,4,none⟩) (Nat.le_refl _) (.int .i64 0)).setCell (p:=⟨w.heap.size,5,none⟩) (Nat.le_refl _) (.int .i64 0)).setCell (p:=⟨w.heap.size,6,none⟩) (Nat.le_refl _) (.string ⟨#[]⟩)).setCell (p:=⟨w.heap.size,7,none⟩) (Nat.le_refl _) (.string ⟨#[]⟩)).setCell (p:=⟨w.heap.size,8,none⟩) (Nat.le_refl _) (.int .i64 0)).setCell (p:=⟨w.heap.size,9,none⟩) (Nat.le_refl _) (.int .i64 0)).setCell (p:=⟨w.heap.size,10,none⟩) (Nat.le_refl _) (.slice none 0 0))⟩
set_option maxRecDepth 100000 in
set_option maxHeartbeats 1000000 in
theorem MemO_bad3 (v : Value) (b : List UInt8) (w : World) (h : SliceC maxLen 1 ByteC w [v] b) (hbl : b.length ≤ 1048576) (hE : ErrsOk w) (hT : Pow10 w) {h1 : HeadN} {d1 r1 : List UInt8} (hk : blockOf b = (h1,d1,r1,0)) (ht : h1.typ = 120) {l : List Rec} (hp : paxOf (ofL d1) = (l,0)) {h2 : HeadN} {d2 r2 : List UInt8} {e3 : Int} (hk2 : blockOf r1 = (h2,d2,r2,e3)) (he : ¬ e3 = 0) :
 Calls Tryz.prog 20 #[v] w (RetEnt w (memOf b)):=by
 obtain ⟨a,cap,hv,hcp⟩:=bytes_form h
 subst hv
 have HFI:=Lib.hid (fun W (hb:Below w.heap.size w W)=>First_any (.slice a b.length cap) b W (h.below (fun _ _ h=>h) hb) hbl)
 have HBZ:=Lib.hid ((Below.refl w.heap.size w).alloc (Nat.le_refl _) (.cells #[.string ⟨#[]⟩,.int .i64 0,.string ⟨#[]⟩,.int .i64 0,.int .i64 0,.int .i64 0,.string ⟨#[]⟩,.string ⟨#[]⟩,.int .i64 0,.int .i64 0,.slice none 0 0] 26))
 have HRZ:Hid ((w.alloc (.cells #[.string ⟨#[]⟩,.int .i64 0,.string ⟨#[]⟩,.int .i64 0,.int .i64 0,.int .i64 0,.string ⟨#[]⟩,.string ⟨#[]⟩,.int .i64 0,.int .i64 0,.slice none 0 0] 26)).heap[w.heap.size]?=some (.cells #[.string ⟨#[]⟩,.int .i64 0,.string ⟨#[]⟩,.int .i64 0,.int .i64 0,.int .i64 0,.string ⟨#[]⟩,.string ⟨#[]⟩,.int .i64 0,.int .i64 0,.slice none 0 0] 26 (0,0))):=Lib.hid (heap_alloc_new _ _)
 have hty:((h1.typ.toNat:Int)==120)=true:=by rw [ht];rfl
 have HF:=Lib.hid (memOf_bad3 hk ht hp hk2 he)
 have HK:=Lib.hid hk
 have HT:=Lib.hid hT
 rw [firstOf_ok hk] at HFI
 obtain ⟨n1,hn1⟩:∃ n1,n1=512+(padFill d1).length:=⟨_,rfl⟩
 have hfd:=firstOf_drop hk
 rw [<-hn1] at HFI hfd
 clear hn1
 have hs2:∀ W:World,(Instr.slice 24 (.slice a b.length cap) (some (.int .i64 (n1:Nat))) none none).run Tryz.prog W = .ok (sliced a n1 b.length cap 1) W:=fun W=>run_dropB W a b.length cap n1 (by omega) hcp
 have HDR:=Lib.hid (bytes_drop (i:=n1) h (by omega))
 rw [<-hfd.2] at HDR
 generalize sliced a n1 b.length cap 1=sl at *
 have hq:(e3 != 0)=true:=by rw [bne_iff_ne];exact he
 have HE2:=Lib.hid (firstOf_bad hk2 he)
 clear h hk he hE hT ht
 go_enter Tryz.func20,Tryz.ntmps20
 go_wp2_with fail
 refine (HFI.out _ HBZ.out).mono ?_
 rintro e w1 ⟨v1,rfl,ho1,hb⟩
 have HB1:=Lib.hid (HBZ.out.trans (hb.mono HBZ.out.size))
 have HR1:=Lib.hid ((hb.block _ (Array.getElem?_eq_some_iff.1 HRZ.out).1).trans HRZ.out)
 have hlr:=(Array.getElem?_eq_some_iff.1 HR1.out).1
 clear hb HRZ HBZ
 obtain ⟨a1,c1,rfl,hp1⟩:=ho1.place
 have hl1:=blockOf_len HK.out rfl
 have HS1:=Lib.hid (ho1.slice (N:=maxLen) (Nat.le_trans (Nat.le_trans hl1.1 hbl) (by unfold maxLen;decide)))
 have HP1:=Lib.hid hp1
 clear ho1 hp1
 go_upto_region 5 with fail
 have HA:=Lib.hid ((Below.refl w1.heap.size w1).alloc (Nat.le_refl _) (.cells #[.string h1.nm,.string h1.px,.string h1.lk,.int .i64 h1.mode,.int .i64 h1.uid,.int .i64 h1.gid,.int .i64 h1.size,.int .i64 h1.time,.int .u8 h1.typ.toNat,.string h1.user,.string h1.group] 62))
 have HB2:=Lib.hid (HB1.out.trans (HA.out.mono HB1.out.size))
 have HD2:Hid ((w1.alloc (.cells #[.string h1.nm,.string h1.px,.string h1.lk,.int .i64 h1.mode,.int .i64 h1.uid,.int .i64 h1.gid,.int .i64 h1.size,.int .i64 h1.time,.int .u8 h1.typ.toNat,.string h1.user,.string h1.group] 62)).heap[w1.heap.size]?=some (.cells #[.string h1.nm,.string h1.px,.string h1.lk,.int .i64 h1.mode,.int .i64 h1.uid,.int .i64 h1.gid,.int .i64 h1.size,.int .i64 h1.time,.int .u8 h1.typ.toNat,.string h1.user,.string h1.group] 62 (0,0))):=Lib.hid (heap_alloc_new _ _)
 have HR2:=Lib.hid ((HA.out.block _ hlr).trans HR1.out)
 have HS2:=Lib.hid (bytesBelow HS1.out HA.out)
 have HP2:Hid (∀ p,a1=some p->w.heap.size<p.block/\p.block<w1.heap.size):=Lib.hid (fun p hp=>⟨by have:=(HP1.out p hp).1;simp at this;omega,(HP1.out p hp).2⟩)
 have hne:w.heap.size<w1.heap.size:=hlr
 generalize w1.heap.size=bh at *
 generalize w1.alloc (.cells #[.string h1.nm,.string h1.px,.string h1.lk,.int .i64 h1.mode,.int .i64 h1.uid,.int .i64 h1.gid,.int .i64 h1.size,.int .i64 h1.time,.int .u8 h1.typ.toNat,.string h1.user,.string h1.group] 62)=w2 at *
 clear HA HB1 HR1 HS1 HP1 hlr
 have hmm := @run_makeMap Tryz.prog
 go_upto_region 6 with fail
 have HA:=Lib.hid ((Below.refl w2.heap.size w2).alloc (Nat.le_refl _) (.map #[] 0))
 have HB3:=Lib.hid (HB2.out.trans (HA.out.mono HB2.out.size))
 have HD3:=Lib.hid ((HA.out.block _ (Array.getElem?_eq_some_iff.1 HD2.out).1).trans HD2.out)
 have HR3:=Lib.hid ((HA.out.block _ (Array.getElem?_eq_some_iff.1 HR2.out).1).trans HR2.out)
 have HS3:=Lib.hid (bytesBelow HS2.out HA.out)
 have HM3:=Lib.hid (MapB.made (fun s:ByteArray=>Value.string s) w2)
 have hbm:bh<w2.heap.size:=(Array.getElem?_eq_some_iff.1 HD2.out).1
 generalize w2.heap.size=bm at *
 generalize w2.alloc (.map #[] 0)=w3 at *
 clear HA HB2 HD2 HR2 HS2 hmm
 have k8:w3.cell? ⟨bh,8,none⟩=some (.int .u8 h1.typ.toNat):=cellAt HD3.out rfl
 have hcv:=conv w3 HS3.out
 have HPX:=Lib.hid (PaxOf_any (ofL d1) w3 (by rw [ofL_size];exact Nat.le_trans hl1.1 hbl) (HT.out.below HB3.out))
 rw [hp] at HPX
 go_wp2_with fail
 refine HPX.out.mono ?_
 rintro e w4 ⟨v3,rfl,ho3,hb4⟩
 have HB4:=Lib.hid (HB3.out.trans (hb4.mono HB3.out.size))
 have HR4:=Lib.hid ((hb4.block _ (Array.getElem?_eq_some_iff.1 HR3.out).1).trans HR3.out)
 have HD4:=Lib.hid ((hb4.block _ (Array.getElem?_eq_some_iff.1 HD3.out).1).trans HD3.out)
 have HM4:=Lib.hid (HM3.out.below hb4 HM3.out.lt)
 have HO4:=Lib.hid ho3
 have hbm4:bm<w3.heap.size:=HM3.out.lt
 have hw34:w3.heap.size<=w4.heap.size:=hb4.size
 clear hcv HPX hb4 ho3 HB3 HR3 HD3 HM3
 obtain ⟨av,cv,rfl,hcvm,hform⟩:=HO4.out.form2
 have HFM:=Lib.hid hform
 clear hform
 have hll:l.length<=12:=by have h4:=paxOf_len (s:=ofL d1) (by rw [hp]);rw [hp] at h4;exact h4
 go_wp2_with fail
 go_loopw [14,60] (fun _ i wr=>∃ k:Nat,k<=l.length/\i = .int .i64 k/\Hid (MapB (fun s:ByteArray=>Value.string s) wr bm (putsR (l.take k)))/\Hid (w4.grownBy wr (some bm))) (fun _ i _=>l.length-(intOf i).toNat)
 case atStart=>exact ⟨0,by omega,rfl,Lib.hid (by rw [List.take_zero];exact HM4.out),Lib.hid (grownBelow _ (Below.refl _ _))⟩
 case round =>
  obtain ⟨k,hk,rfl,HMK,HGK⟩:=hrel
  by_cases hlt:k<l.length
  ·obtain ⟨g,rfl,hlc,hgl⟩:=HFM.out (by omega)
   have hgb:w3.heap.size<=g:=(World.ownsRow.lt HO4.out g rfl).1
   have HOR:Hid (OwnRecs 85 wr w3.heap.size (.slice (some ⟨g,0,none⟩) l.length cv) l):=Lib.hid (HO4.out.kept HGK.out (.inr (fun e=>by simp [Value.ownBlock] at e;omega)))
   obtain ⟨r0,r1⟩:=HOR.out.recAt hlt
   have hrb:=(World.block_lt_of_cell? wr _ r0)
   obtain ⟨wp,hput,hmp,hgp,hsp⟩:=(HMK.out.below ((Below.refl wr.heap.size wr).alloc (Nat.le_refl _) (.cells #[.string (rk l k).key,.string (rk l k).value] 85)) HMK.out.lt).put (P:=Tryz.prog) keyOn_str Tryz.underlying83 Tryz.underlying9 (rk l k).key (.string (rk l k).value)
   have HPT:=Lib.hid (puts_take hlt)
   have HMP:=Lib.hid hmp
   have HGP:=Lib.hid (grown_two (HGK.out.andThen (World.grownBy_alloc wr (.cells #[.string (rk l k).key,.string (rk l k).value] 85) (some bm)) (fun j hj => .inr hj)) hgp)
   clear hmp hgp hsp
   go_wp2
   go_roundw
   case rel=>exact ⟨k+1,by omega,by go_num,Lib.hid (by rw [HPT.out];exact HMP.out),HGP⟩
   case measure=>simp [intOf];omega
  ·obtain rfl:k=l.length:=by omega
   rw [List.take_length] at HMK
   have HB5:=Lib.hid (below_grown HB4.out HGK.out HB4.out.size (fun j hj=>by cases hj;omega))
   have HR5:=Lib.hid ((HGK.out.block _ (Array.getElem?_eq_some_iff.1 HR4.out).1 (by simp;omega)).trans HR4.out)
   have HD5:=Lib.hid ((HGK.out.block _ (Array.getElem?_eq_some_iff.1 HD4.out).1 (by simp;omega)).trans HD4.out)
   have hbm5:bm<wr.heap.size:=HMK.out.lt
   have HFI2:=Lib.hid (First_any sl r1 wr (bytesBelow HDR.out HB5.out) (Nat.le_trans hl1.2 hbl))
   rw [HE2.out] at HFI2
   clear HR4 HD4 HM4 HGK HB4
   go_wp2_with fail
   refine HFI2.out.mono ?_
   rintro e w6 ⟨v6,rfl,ho6,hb6⟩
   have HB6:=Lib.hid (HB5.out.trans (hb6.mono HB5.out.size))
   have HR6:=Lib.hid ((hb6.block _ (Array.getElem?_eq_some_iff.1 HR5.out).1).trans HR5.out)
   have HD6:=Lib.hid ((hb6.block _ (Array.getElem?_eq_some_iff.1 HD5.out).1).trans HD5.out)
   have HM6:=Lib.hid (HMK.out.below hb6 HMK.out.lt)
   have hw6:wr.heap.size<=w6.heap.size:=hb6.size
   have HO6:=Lib.hid ho6
   clear hb6 ho6 HFI2 HB5 HR5 HD5 HMK
   have hne1:w.heap.size≠bh:=Nat.ne_of_lt hne
   have hne2:bh≠w.heap.size:=(Nat.ne_of_lt hne).symm
   obtain ⟨k0,k1,k2,k3,k4,k5,k6,k7,k8,k9,k10⟩:=cells11 HD6.out
   obtain ⟨g0,g1,g2,g3,g4,g5,g6,g7,g8,g9,g10⟩:=froz11 HD6.out
   have HB7:=Lib.hid (Below.setRow (b:=bh) (Nat.le_of_lt hne) [.string headNone.nm,.string headNone.px,.string headNone.lk,.int .i64 headNone.mode,.int .i64 headNone.uid,.int .i64 headNone.gid,.int .i64 headNone.size,.int .i64 headNone.time,.int .u8 headNone.typ.toNat,.string headNone.user,.string headNone.group] w w6 0 HB6.out)
   have HR7:=Lib.hid (((grown_row bh [.string headNone.nm,.string headNone.px,.string headNone.lk,.int .i64 headNone.mode,.int .i64 headNone.uid,.int .i64 headNone.gid,.int .i64 headNone.size,.int .i64 headNone.time,.int .u8 headNone.typ.toNat,.string headNone.user,.string headNone.group] w6 0).block _ (Array.getElem?_eq_some_iff.1 HR6.out).1 (by simp;omega)).trans HR6.out)
   go_upto_region 18 with fail
   go_wp2_with fail
   refine (No_any e3 _).mono ?_
   rintro e wn3 ⟨rfl,hbn⟩
   have HBN:=Lib.hid (HB7.out.trans (hbn.mono HB7.out.size))
   have HRN:=Lib.hid ((hbn.block _ (Array.getElem?_eq_some_iff.1 (HR7.out)).1).trans (HR7.out))
   clear hbn
   obtain ⟨rn0,rn1,rn2,rn3,rn4,rn5,rn6,rn7,rn8,rn9,rn10⟩:=cells11 HRN.out
   obtain ⟨fn0,fn1,fn2,fn3,fn4,fn5,fn6,fn7,fn8,fn9,fn10⟩:=froz11 HRN.out
   go_wp2
   (try simp only [Exit.inBlock,Exit.then])
   refine bodyPost_ret (v := .tuple #[.agg #[.string ⟨#[]⟩,.int .i64 0,.string ⟨#[]⟩,.int .i64 0,.int .i64 0,.int .i64 0,.string ⟨#[]⟩,.string ⟨#[]⟩,.int .i64 0,.int .i64 0,.slice none 0 0],.int .i64 0,.int .i64 e3]) (by rw [results_cell_t3 rfl];go_simp) rfl ?_
   rw [HF.out]
   exact ⟨entNone,rfl,entNone_out _ _,(((((((((((HBN.out.setCell (p:=⟨w.heap.size,0,none⟩) (Nat.le_refl _) (.string ⟨#[]⟩)).setCell (p:=⟨w.heap.size,1,none⟩) (Nat.le_refl _) (.int .i64 0)).setCell (p:=⟨w.heap.size,2,none⟩) (Nat.le_refl _) (.string ⟨#[]⟩)).setCell (p:=⟨w.heap.size,3,none⟩) (Nat.le_refl _) (.int .i64 0)).setCell (p:=⟨w.heap.size,4,none⟩) (Nat.le_refl _) (.int .i64 0)).setCell (p:=⟨w.heap.size,5,none⟩) (Nat.le_refl _) (.int .i64 0)).setCell (p:=⟨w.heap.size,6,none⟩) (Nat.le_refl _) (.string ⟨#[]⟩)).setCell (p:=⟨w.heap.size,7,none⟩) (Nat.le_refl _) (.string ⟨#[]⟩)).setCell (p:=⟨w.heap.size,8,none⟩) (Nat.le_refl _) (.int .i64 0)).setCell (p:=⟨w.heap.size,9,none⟩) (Nat.le_refl _) (.int .i64 0)).setCell (p:=⟨w.heap.size,10,none⟩) (Nat.le_refl _) (.slice none 0 0))⟩
set_option maxRecDepth 100000 in
set_option maxHeartbeats 8000000 in
theorem MemO_good (v : Value) (b : List UInt8) (w : World) (h : SliceC maxLen 1 ByteC w [v] b) (hbl : b.length ≤ 1048576) (hE : ErrsOk w) (hT : Pow10 w) {h1 : HeadN} {d1 r1 : List UInt8} (hk : blockOf b = (h1,d1,r1,0)) (hgo : h1.typ = 120 → ∃ l h2 d2 r2,paxOf (ofL d1) = (l,0) ∧ blockOf r1 = (h2,d2,r2,0)) :
 Calls Tryz.prog 20 #[v] w (RetEnt w (memOf b)):=by
 obtain ⟨a,cap,hv,hcp⟩:=bytes_form h
 subst hv
 have HFI:=Lib.hid (fun W (hb:Below w.heap.size w W)=>First_any (.slice a b.length cap) b W (h.below (fun _ _ h=>h) hb) hbl)
 have HBZ:=Lib.hid ((Below.refl w.heap.size w).alloc (Nat.le_refl _) (.cells #[.string ⟨#[]⟩,.int .i64 0,.string ⟨#[]⟩,.int .i64 0,.int .i64 0,.int .i64 0,.string ⟨#[]⟩,.string ⟨#[]⟩,.int .i64 0,.int .i64 0,.slice none 0 0] 26))
 have HRZ:Hid ((w.alloc (.cells #[.string ⟨#[]⟩,.int .i64 0,.string ⟨#[]⟩,.int .i64 0,.int .i64 0,.int .i64 0,.string ⟨#[]⟩,.string ⟨#[]⟩,.int .i64 0,.int .i64 0,.slice none 0 0] 26)).heap[w.heap.size]?=some (.cells #[.string ⟨#[]⟩,.int .i64 0,.string ⟨#[]⟩,.int .i64 0,.int .i64 0,.int .i64 0,.string ⟨#[]⟩,.string ⟨#[]⟩,.int .i64 0,.int .i64 0,.slice none 0 0] 26 (0,0))):=Lib.hid (heap_alloc_new _ _)
 have HTK:=Lib.hid (fun W n (hb:Below w.heap.size w W) (hn:n<=b.length)=>conv W (bytesBelow (bytes_take (i:=n) h hn) hb))
 have HK:=Lib.hid hk
 have HT:=Lib.hid hT
 have HE:=Lib.hid hE
 have HGO:=Lib.hid hgo
 rw [firstOf_ok hk] at HFI
 obtain ⟨n1,hn1⟩:∃ n1,n1=512+(padFill d1).length:=⟨_,rfl⟩
 have hfd:=firstOf_drop hk
 rw [<-hn1] at HFI hfd
 clear hn1
 have hs2:∀ W:World,(Instr.slice 24 (.slice a b.length cap) (some (.int .i64 (n1:Nat))) none none).run Tryz.prog W = .ok (sliced a n1 b.length cap 1) W:=fun W=>run_dropB W a b.length cap n1 (by omega) hcp
 have HDR:=Lib.hid (bytes_drop (i:=n1) h (by omega))
 rw [<-hfd.2] at HDR
 generalize sliced a n1 b.length cap 1=sl at *
 clear h hk hE hT hgo
 go_enter Tryz.func20,Tryz.ntmps20
 go_wp2_with fail
 refine (HFI.out _ HBZ.out).mono ?_
 rintro e w1 ⟨v1,rfl,ho1,hb⟩
 have HB1:=Lib.hid (HBZ.out.trans (hb.mono HBZ.out.size))
 have HR1:=Lib.hid ((hb.block _ (Array.getElem?_eq_some_iff.1 HRZ.out).1).trans HRZ.out)
 have hlr:=(Array.getElem?_eq_some_iff.1 HR1.out).1
 clear hb HRZ HBZ
 obtain ⟨a1,c1,rfl,hp1⟩:=ho1.place
 have hl1:=blockOf_len HK.out rfl
 have HS1:=Lib.hid (ho1.slice (N:=maxLen) (Nat.le_trans (Nat.le_trans hl1.1 hbl) (by unfold maxLen;decide)))
 have HP1:=Lib.hid hp1
 clear ho1 hp1
 go_upto_region 5 with fail
 have HA:=Lib.hid ((Below.refl w1.heap.size w1).alloc (Nat.le_refl _) (.cells #[.string h1.nm,.string h1.px,.string h1.lk,.int .i64 h1.mode,.int .i64 h1.uid,.int .i64 h1.gid,.int .i64 h1.size,.int .i64 h1.time,.int .u8 h1.typ.toNat,.string h1.user,.string h1.group] 62))
 have HB2:=Lib.hid (HB1.out.trans (HA.out.mono HB1.out.size))
 have HD2:Hid ((w1.alloc (.cells #[.string h1.nm,.string h1.px,.string h1.lk,.int .i64 h1.mode,.int .i64 h1.uid,.int .i64 h1.gid,.int .i64 h1.size,.int .i64 h1.time,.int .u8 h1.typ.toNat,.string h1.user,.string h1.group] 62)).heap[w1.heap.size]?=some (.cells #[.string h1.nm,.string h1.px,.string h1.lk,.int .i64 h1.mode,.int .i64 h1.uid,.int .i64 h1.gid,.int .i64 h1.size,.int .i64 h1.time,.int .u8 h1.typ.toNat,.string h1.user,.string h1.group] 62 (0,0))):=Lib.hid (heap_alloc_new _ _)
 have HR2:=Lib.hid ((HA.out.block _ hlr).trans HR1.out)
 have HS2:=Lib.hid (bytesBelow HS1.out HA.out)
 have HP2:Hid (∀ p,a1=some p->w.heap.size<p.block/\p.block<w1.heap.size):=Lib.hid (fun p hp=>⟨by have:=(HP1.out p hp).1;simp at this;omega,(HP1.out p hp).2⟩)
 have hne:w.heap.size<w1.heap.size:=hlr
 generalize w1.heap.size=bh at *
 generalize w1.alloc (.cells #[.string h1.nm,.string h1.px,.string h1.lk,.int .i64 h1.mode,.int .i64 h1.uid,.int .i64 h1.gid,.int .i64 h1.size,.int .i64 h1.time,.int .u8 h1.typ.toNat,.string h1.user,.string h1.group] 62)=w2 at *
 clear HA HB1 HR1 HS1 HP1 hlr
 have hmm := @run_makeMap Tryz.prog
 go_upto_region 6 with fail
 have HA:=Lib.hid ((Below.refl w2.heap.size w2).alloc (Nat.le_refl _) (.map #[] 0))
 have HB3:=Lib.hid (HB2.out.trans (HA.out.mono HB2.out.size))
 have HD3:=Lib.hid ((HA.out.block _ (Array.getElem?_eq_some_iff.1 HD2.out).1).trans HD2.out)
 have HR3:=Lib.hid ((HA.out.block _ (Array.getElem?_eq_some_iff.1 HR2.out).1).trans HR2.out)
 have HS3:=Lib.hid (bytesBelow HS2.out HA.out)
 have HM3:=Lib.hid (MapB.made (fun s:ByteArray=>Value.string s) w2)
 have hbm:bh<w2.heap.size:=(Array.getElem?_eq_some_iff.1 HD2.out).1
 generalize w2.heap.size=bm at *
 generalize w2.alloc (.map #[] 0)=w3 at *
 clear HA HB2 HD2 HR2 HS2 hmm
 have k8:w3.cell? ⟨bh,8,none⟩=some (.int .u8 h1.typ.toNat):=cellAt HD3.out rfl
 obtain ⟨q,hq⟩:∃ q,((h1.typ.toNat:Int)==120)=q:=⟨_,rfl⟩
 go_cut [43] from 41 to 43 (fun u wy=>u = .bool q/\wy=w3)
 case first =>
  go_wp2
  go_meet
  exact ⟨rfl,rfl⟩
 case rest =>
 obtain ⟨rfl,rfl⟩:=hcut
 obtain ⟨w3,rfl⟩:∃ W:World,W=wc:=⟨_,rfl⟩
 go_step
 go_cut [7,8,11,12,14,15,43] from 44 to 90 (fun u7 u8 _ _ _ _ u43 wy=>∃ (h2:HeadN) (l2:List Rec) (a7:Option Addr) (c7:Nat) (d2:List UInt8) (n2:Nat),u7 = .slice a7 d2.length c7/\u8 = .int .i64 (n2:Int)/\u43 = .bool q/\Hid (memOf b=memEnd b n2 h2 l2 d2/\n2<=b.length/\h2.Ok maxLen/\(∀ r∈l2,r.key.size<=1048576/\r.value.size<=1048576)/\(l2.map (·.key)).Nodup)/\Hid (MapB (fun s:ByteArray=>Value.string s) wy bm (putsR l2))/\Hid (SliceC maxLen 1 ByteC wy [.slice a7 d2.length c7] d2)/\Hid (∀ p,a7=some p->w.heap.size<p.block)/\Hid (wy.heap[bh]?=some (.cells #[.string h2.nm,.string h2.px,.string h2.lk,.int .i64 h2.mode,.int .i64 h2.uid,.int .i64 h2.gid,.int .i64 h2.size,.int .i64 h2.time,.int .u8 h2.typ.toNat,.string h2.user,.string h2.group] 62 (0,0)))/\Hid (wy.heap[w.heap.size]?=some (.cells #[.string ⟨#[]⟩,.int .i64 0,.string ⟨#[]⟩,.int .i64 0,.int .i64 0,.int .i64 0,.string ⟨#[]⟩,.string ⟨#[]⟩,.int .i64 0,.int .i64 0,.slice none 0 0] 26 (0,0)))/\Hid (Below w.heap.size w wy))
 case first =>
  cases q with
  | true =>
    have ht:h1.typ=120:=UInt8.toNat_inj.1 (by have h2:(120:UInt8).toNat=120:=rfl;have h3:=eq_of_beq hq;rw [h2];exact_mod_cast h3)
    obtain ⟨l,h2,d2,r2,hp,hk2⟩:=HGO.out ht
    obtain ⟨n2,hn2⟩:∃ n2,n2=512+(padFill d2).length:=⟨_,rfl⟩
    have hfd2:=firstOf_drop hk2
    have HE2:=Lib.hid (firstOf_ok hk2)
    rw [<-hn2] at HE2 hfd2
    have hn12:n1+n2<=b.length:=by omega
    have HMF:Hid (memOf b=memEnd b (n1+n2) h2 l d2):=Lib.hid (by rw [memOf_pax HK.out ht hp hk2];congr 1;omega)
    have HLS:=Lib.hid (fun (r:Rec) (hr:r∈l)=>show r.key.size<=1048576/\r.value.size<=1048576 from by
     have h3:=paxOf_rec (s:=ofL d1) (by rw [hp]) r (by rw [hp];exact hr)
     omega)
    have HKN:Hid ((l.map (·.key)).Nodup):=Lib.hid (by have h3:=paxOf_keys (s:=ofL d1) (by rw [hp]);rw [hp] at h3;exact h3)
    clear ht hn2
    have hcv:=conv w3 HS3.out
    have HPX:=Lib.hid (PaxOf_any (ofL d1) w3 (by rw [ofL_size];exact Nat.le_trans hl1.1 hbl) (HT.out.below HB3.out))
    rw [hp] at HPX
    go_wp2_with fail
    refine HPX.out.mono ?_
    rintro e w4 ⟨v3,rfl,ho3,hb4⟩
    have HB4:=Lib.hid (HB3.out.trans (hb4.mono HB3.out.size))
    have HR4:=Lib.hid ((hb4.block _ (Array.getElem?_eq_some_iff.1 HR3.out).1).trans HR3.out)
    have HD4:=Lib.hid ((hb4.block _ (Array.getElem?_eq_some_iff.1 HD3.out).1).trans HD3.out)
    have HM4:=Lib.hid (HM3.out.below hb4 HM3.out.lt)
    have HO4:=Lib.hid ho3
    have hbm4:bm<w3.heap.size:=HM3.out.lt
    have hw34:w3.heap.size<=w4.heap.size:=hb4.size
    clear hcv HPX hb4 ho3 HB3 HR3 HD3 HM3
    obtain ⟨av,cv,rfl,hcvm,hform⟩:=HO4.out.form2
    have HFM:=Lib.hid hform
    clear hform
    have hll:l.length<=12:=by have h4:=paxOf_len (s:=ofL d1) (by rw [hp]);rw [hp] at h4;exact h4
    go_wp2_with fail
    go_loopw [14,60] (fun _ i wr=>∃ k:Nat,k<=l.length/\i = .int .i64 k/\Hid (MapB (fun s:ByteArray=>Value.string s) wr bm (putsR (l.take k)))/\Hid (w4.grownBy wr (some bm))) (fun _ i _=>l.length-(intOf i).toNat)
    case atStart=>exact ⟨0,by omega,rfl,Lib.hid (by rw [List.take_zero];exact HM4.out),Lib.hid (grownBelow _ (Below.refl _ _))⟩
    case round =>
     obtain ⟨k,hk,rfl,HMK,HGK⟩:=hrel
     by_cases hlt:k<l.length
     ·obtain ⟨g,rfl,hlc,hgl⟩:=HFM.out (by omega)
      have hgb:w3.heap.size<=g:=(World.ownsRow.lt HO4.out g rfl).1
      have HOR:Hid (OwnRecs 85 wr w3.heap.size (.slice (some ⟨g,0,none⟩) l.length cv) l):=Lib.hid (HO4.out.kept HGK.out (.inr (fun e=>by simp [Value.ownBlock] at e;omega)))
      obtain ⟨r0,r1⟩:=HOR.out.recAt hlt
      have hrb:=(World.block_lt_of_cell? wr _ r0)
      obtain ⟨wp,hput,hmp,hgp,hsp⟩:=(HMK.out.below ((Below.refl wr.heap.size wr).alloc (Nat.le_refl _) (.cells #[.string (rk l k).key,.string (rk l k).value] 85)) HMK.out.lt).put (P:=Tryz.prog) keyOn_str Tryz.underlying83 Tryz.underlying9 (rk l k).key (.string (rk l k).value)
      have HPT:=Lib.hid (puts_take hlt)
      have HMP:=Lib.hid hmp
      have HGP:=Lib.hid (grown_two (HGK.out.andThen (World.grownBy_alloc wr (.cells #[.string (rk l k).key,.string (rk l k).value] 85) (some bm)) (fun j hj => .inr hj)) hgp)
      clear hmp hgp hsp
      go_wp2
      go_roundw
      case rel=>exact ⟨k+1,by omega,by go_num,Lib.hid (by rw [HPT.out];exact HMP.out),HGP⟩
      case measure=>simp [intOf];omega
     ·obtain rfl:k=l.length:=by omega
      rw [List.take_length] at HMK
      have HB5:=Lib.hid (below_grown HB4.out HGK.out HB4.out.size (fun j hj=>by cases hj;omega))
      have HR5:=Lib.hid ((HGK.out.block _ (Array.getElem?_eq_some_iff.1 HR4.out).1 (by simp;omega)).trans HR4.out)
      have HD5:=Lib.hid ((HGK.out.block _ (Array.getElem?_eq_some_iff.1 HD4.out).1 (by simp;omega)).trans HD4.out)
      have hbm5:bm<wr.heap.size:=HMK.out.lt
      have HFI2:=Lib.hid (First_any sl r1 wr (bytesBelow HDR.out HB5.out) (Nat.le_trans hl1.2 hbl))
      rw [HE2.out] at HFI2
      clear HR4 HD4 HM4 HGK HB4
      go_wp2_with fail
      refine HFI2.out.mono ?_
      rintro e w6 ⟨v6,rfl,ho6,hb6⟩
      have HB6:=Lib.hid (HB5.out.trans (hb6.mono HB5.out.size))
      have HR6:=Lib.hid ((hb6.block _ (Array.getElem?_eq_some_iff.1 HR5.out).1).trans HR5.out)
      have HD6:=Lib.hid ((hb6.block _ (Array.getElem?_eq_some_iff.1 HD5.out).1).trans HD5.out)
      have HM6:=Lib.hid (HMK.out.below hb6 HMK.out.lt)
      have hw6:wr.heap.size<=w6.heap.size:=hb6.size
      have HO6:=Lib.hid ho6
      clear hb6 ho6 HFI2 HB5 HR5 HD5 HMK
      have hne1:w.heap.size≠bh:=Nat.ne_of_lt hne
      have hne2:bh≠w.heap.size:=(Nat.ne_of_lt hne).symm
      obtain ⟨k0,k1,k2,k3,k4,k5,k6,k7,k8,k9,k10⟩:=cells11 HD6.out
      obtain ⟨g0,g1,g2,g3,g4,g5,g6,g7,g8,g9,g10⟩:=froz11 HD6.out
      have hg:=grown_row bh [.string h2.nm,.string h2.px,.string h2.lk,.int .i64 h2.mode,.int .i64 h2.uid,.int .i64 h2.gid,.int .i64 h2.size,.int .i64 h2.time,.int .u8 h2.typ.toNat,.string h2.user,.string h2.group] w6 0
      have hho:OwnBs 5 (setRow w6 bh [.string h2.nm,.string h2.px,.string h2.lk,.int .i64 h2.mode,.int .i64 h2.uid,.int .i64 h2.gid,.int .i64 h2.size,.int .i64 h2.time,.int .u8 h2.typ.toNat,.string h2.user,.string h2.group] 0) wr.heap.size v6 d2:=HO6.out.kept hg (.inr (fun e=>by have:=(World.ownsRow.lt HO6.out bh e).1;omega))
      obtain ⟨a6,c6,rfl,hp6⟩:=HO6.out.place
      have HRW:(setRow w6 bh [.string h2.nm,.string h2.px,.string h2.lk,.int .i64 h2.mode,.int .i64 h2.uid,.int .i64 h2.gid,.int .i64 h2.size,.int .i64 h2.time,.int .u8 h2.typ.toNat,.string h2.user,.string h2.group] 0).heap[bh]?=some (.cells #[.string h2.nm,.string h2.px,.string h2.lk,.int .i64 h2.mode,.int .i64 h2.uid,.int .i64 h2.gid,.int .i64 h2.size,.int .i64 h2.time,.int .u8 h2.typ.toNat,.string h2.user,.string h2.group] 62 (0,0)):=setRow_all HD6.out rfl
      have HRZ2:(setRow w6 bh [.string h2.nm,.string h2.px,.string h2.lk,.int .i64 h2.mode,.int .i64 h2.uid,.int .i64 h2.gid,.int .i64 h2.size,.int .i64 h2.time,.int .u8 h2.typ.toNat,.string h2.user,.string h2.group] 0).heap[w.heap.size]?=some (.cells #[.string ⟨#[]⟩,.int .i64 0,.string ⟨#[]⟩,.int .i64 0,.int .i64 0,.int .i64 0,.string ⟨#[]⟩,.string ⟨#[]⟩,.int .i64 0,.int .i64 0,.slice none 0 0] 26 (0,0)):=(hg.block _ (Array.getElem?_eq_some_iff.1 HR6.out).1 (by simp;omega)).trans HR6.out
      have HBB:=Below.setRow (b:=bh) (Nat.le_of_lt hne) [.string h2.nm,.string h2.px,.string h2.lk,.int .i64 h2.mode,.int .i64 h2.uid,.int .i64 h2.gid,.int .i64 h2.size,.int .i64 h2.time,.int .u8 h2.typ.toNat,.string h2.user,.string h2.group] w w6 0 HB6.out
      have HDS:=hho.slice (N:=maxLen) (Nat.le_trans (Nat.le_trans (blockOf_len hk2 rfl).1 (Nat.le_trans hl1.2 hbl)) (by unfold maxLen;decide))
      have HDP:∀ p,a6=some p->w.heap.size<p.block:=fun p hp=>by have:=(hp6 p hp).1;omega
      have HM7:=Lib.hid (HM6.out.keep hg (by simp;omega))
      clear hg hho hp6 HO6
      go_wp2_with fail
      go_meet
      case rel=>exact ⟨h2,l,_,_,d2,n1+n2,rfl,by go_num,rfl,Lib.hid ⟨HMF.out,hn12,by have:=blockHead_ok r1;rw [hk2] at this;exact this,HLS.out,HKN.out⟩,HM7,Lib.hid HDS,Lib.hid HDP,Lib.hid HRW,Lib.hid HRZ2,Lib.hid HBB⟩
  | false =>
    have ht:¬ h1.typ=120:=fun e=>by rw [e] at hq;cases hq
    have HMF:Hid (memOf b=memEnd b n1 h1 [] d1):=Lib.hid (by rw [memOf_plain HK.out ht];congr 1;omega)
    have hn1b:n1<=b.length:=by omega
    clear ht
    go_wp2_with fail
    go_meet
    case rel=>exact ⟨h1,[],a1,c1,d1,n1,rfl,rfl,rfl,Lib.hid ⟨HMF.out,hn1b,by have:=blockHead_ok b;rw [HK.out] at this;exact this,fun r hr=>by simp at hr,List.nodup_nil⟩,HM3,HS3,Lib.hid (fun p hp=>(HP2.out p hp).1),HD3,HR3,HB3⟩
 case rest =>
 obtain ⟨h2,l2,a7,c7,d2,n2,rfl,rfl,rfl,HMO,HM5,HDA,HDP,HD5,HR5,HB5⟩:=hcut
 obtain ⟨w5,rfl⟩:∃ W:World,W=wc:=⟨_,rfl⟩
 clear HS3 HP2 HB3 HD3 HR3 HM3 HGO HK k8 HFI HDR hs2
 obtain ⟨kk0,kk1,kk2,kk3,kk4,kk5,kk6,kk7,kk8,kk9,kk10⟩:=cells11 HD5.out
 have hbm5:=HM5.out.lt
 have hbh5:=(Array.getElem?_eq_some_iff.1 HD5.out).1
 go_upto_region 21 with fail
 have HA:=Lib.hid ((Below.refl w5.heap.size w5).alloc (Nat.le_refl _) (.cells #[.string ⟨#[]⟩,.int .i64 0,.string h2.lk,.int .i64 h2.mode,.int .i64 h2.uid,.int .i64 h2.gid,.string h2.user,.string h2.group,.int .i64 h2.time,.int .i64 0,.slice a7 d2.length c7] 26))
 have HB6:=Lib.hid (HB5.out.trans (HA.out.mono HB5.out.size))
 have HX6:Hid ((w5.alloc (.cells #[.string ⟨#[]⟩,.int .i64 0,.string h2.lk,.int .i64 h2.mode,.int .i64 h2.uid,.int .i64 h2.gid,.string h2.user,.string h2.group,.int .i64 h2.time,.int .i64 0,.slice a7 d2.length c7] 26)).heap[w5.heap.size]?=some (.cells #[.string ⟨#[]⟩,.int .i64 (kindK h2.typ 0),.string h2.lk,.int .i64 h2.mode,.int .i64 h2.uid,.int .i64 h2.gid,.string h2.user,.string h2.group,.int .i64 h2.time,.int .i64 0,.slice a7 d2.length c7] 26 (0,0))):=Lib.hid (heap_alloc_new _ _)
 have HD6:=Lib.hid ((HA.out.block _ hbh5).trans HD5.out)
 have HR6:=Lib.hid ((HA.out.block _ (Array.getElem?_eq_some_iff.1 HR5.out).1).trans HR5.out)
 have HS6:=Lib.hid (bytesBelow HDA.out HA.out)
 have HM6:=Lib.hid (HM5.out.below HA.out hbm5)
 have HDQ:Hid (∀ p,0<d2.length->a7=some p->p.block<w5.heap.size):=Lib.hid (fun p hl hp=>bytesC_lt HDA.out p hl hp)
 have hzl:=(Array.getElem?_eq_some_iff.1 HR5.out).1
 clear kk0 kk1 kk2 kk3 kk4 kk5 kk6 kk7 kk8 kk9 kk10
 generalize w5.heap.size=bx at *
 generalize w5.alloc (.cells #[.string ⟨#[]⟩,.int .i64 0,.string h2.lk,.int .i64 h2.mode,.int .i64 h2.uid,.int .i64 h2.gid,.string h2.user,.string h2.group,.int .i64 h2.time,.int .i64 0,.slice a7 d2.length c7] 26)=w6 at *
 clear HA HB5 HD5 HR5 HDA HM5
 have hbx6:bx<w6.heap.size:=(Array.getElem?_eq_some_iff.1 HX6.out).1
 go_upto_region 22 with fail
 have hrow0:Hid ((w6.alloc (.cells #[.int .u8 63,.int .u8 48,.int .u8 53,.int .u8 50,.int .u8 49] 5)).heap[w6.heap.size]?=some (.cells #[.int .u8 63,.int .u8 48,.int .u8 53,.int .u8 50,.int .u8 49] 5 (0,0))):=Lib.hid (heap_alloc_new _ _)
 have HA:=Lib.hid ((Below.refl w6.heap.size w6).alloc (Nat.le_refl _) (.cells #[.int .u8 63,.int .u8 48,.int .u8 53,.int .u8 50,.int .u8 49] 5))
 have HG7:=Lib.hid (grownBelow (some bx) HA.out)
 have HX7:=Lib.hid ((HA.out.block _ hbx6).trans HX6.out)
 generalize hbl7:w6.heap.size=bl at *
 generalize w6.alloc (.cells #[.int .u8 63,.int .u8 48,.int .u8 53,.int .u8 50,.int .u8 49] 5)=w7 at *
 have hbl7':bl<w7.heap.size:=(Array.getElem?_eq_some_iff.1 hrow0.out).1
 go_loopw [17,18,110] (fun _ _ i wr=>∃ k:Nat,k<=5/\i = .int .i64 (k:Int)/\Hid (wr.heap[bx]?=some (.cells #[.string ⟨#[]⟩,.int .i64 (kindK h2.typ k),.string h2.lk,.int .i64 h2.mode,.int .i64 h2.uid,.int .i64 h2.gid,.string h2.user,.string h2.group,.int .i64 h2.time,.int .i64 0,.slice a7 d2.length c7] 26 (0,0)))/\Hid (w7.grownBy wr (some bx))) (fun _ _ i _=>5-(intOf i).toNat)
 case atStart=>exact ⟨0,by omega,rfl,HX7,Lib.hid (grownBelow _ (Below.refl _ _))⟩
 case round =>
  obtain ⟨k,hk5,rfl,HXK,HGK⟩:=hrel
  by_cases hlt:k<5
  ·have hlit:wr.cell? ⟨bl,k,none⟩=some (.int .u8 (sgnK k)):=by
    have h0:=(HGK.out.block bl hbl7' (by simp;omega)).trans hrow0.out
    have e:k=0\/k=1\/k=2\/k=3\/k=4:=by omega
    rcases e with rfl|rfl|rfl|rfl|rfl<;>(rw [cell_of_row wr bl _ _ _ (0,0) h0];rfl)
   have k8:wr.cell? ⟨bh,8,none⟩=some (.int .u8 h2.typ.toNat):=by
    rw [cell_of_row wr bh 8 _ _ (0,0) ((HGK.out.block bh (by omega) (by simp;omega)).trans ((HA.out.block bh (by omega)).trans HD6.out))];rfl
   have HKS:Hid (kindK h2.typ (k+1)=if sgnK k=(h2.typ.toNat:Int) then (k:Int) else kindK h2.typ k):=Lib.hid rfl
   by_cases hs:sgnK k=(h2.typ.toNat:Int)
   ·have hq:(sgnK k==(h2.typ.toNat:Int))=true:=by rw [hs];simp
    have x1:wr.cell? ⟨bx,1,none⟩=some (.int .i64 (kindK h2.typ k)):=cellAt HXK.out rfl
    have xf1:=frozen_of_row wr bx 1 _ _ HXK.out
    have HKE:Hid (kindK h2.typ (k+1)=(k:Int)):=Lib.hid (HKS.out.trans (if_pos hs))
    clear hs HKS
    go_wp2_with fail
    go_roundw
    case rel=>exact ⟨k+1,by omega,by go_num,Lib.hid (by rw [HKE.out];exact heap_setCell_same _ _ 1 _ _ _ HXK.out),Lib.hid (grown_two HGK.out (grown_setC _ _ _ _))⟩
    case measure=>simp [intOf];omega
   ·have hq:(sgnK k==(h2.typ.toNat:Int))=false:=by rw [beq_eq_false_iff_ne];exact hs
    have HKE:Hid (kindK h2.typ (k+1)=kindK h2.typ k):=Lib.hid (HKS.out.trans (if_neg hs))
    clear hs HKS
    go_wp2_with fail
    go_roundw
    case rel=>exact ⟨k+1,by omega,by go_num,Lib.hid (by rw [HKE.out];exact HXK.out),HGK⟩
    case measure=>simp [intOf];omega
  ·obtain rfl:k=5:=by omega
   rw [kindK_all] at HXK
   obtain ⟨hmo,hn2,hok,hls,hnd⟩:=HMO.out
   have HOK:=Lib.hid hok
   have HLS2:=Lib.hid hls
   have HND:=Lib.hid hnd
   have HMF:=Lib.hid hmo
   have HG8:=Lib.hid (HA.out.trans (Below.refl _ _))
   have hw7:bl<=w7.heap.size:=Nat.le_of_lt hbl7'
   have hg6:Hid (w6.grownBy wr (some bx)):=Lib.hid ((grownBelow (some bx) (by rw [hbl7];exact HA.out)).andThen HGK.out (fun j hj => .inr hj))
   have HB7:=Lib.hid (below_grown HB6.out hg6.out HB6.out.size (fun j hj=>by cases hj;omega))
   have HR7:=Lib.hid ((hg6.out.block _ (Array.getElem?_eq_some_iff.1 HR6.out).1 (by simp;omega)).trans HR6.out)
   have HD7:=Lib.hid ((hg6.out.block _ (Array.getElem?_eq_some_iff.1 HD6.out).1 (by simp;omega)).trans HD6.out)
   have HM7:=Lib.hid (HM6.out.keep hg6.out (by simp;omega))
   have HS7:=Lib.hid (bytesC_grown HS6.out hg6.out (fun p hl hp e=>by have:=HDQ.out p hl hp;simp at e;omega))
   have hws:w6.heap.size<=wr.heap.size:=hg6.out.size
   clear hmo hls hnd HMO HB6 HR6 HD6 HM6 HS6 HX6 HX7 HG7 HG8 HA hrow0 HGK hg6
   obtain ⟨w8,rfl⟩:∃ W:World,W=wr:=⟨_,rfl⟩
   have c1:w8.cell? ⟨bh,1,none⟩=some (.string h2.px):=cellAt HD7.out rfl
   have c0:w8.cell? ⟨bh,0,none⟩=some (.string h2.nm):=cellAt HD7.out rfl
   go_wp2_with fail
   refine (CutOne_any h2.px h2.nm _ HOK.out.px HOK.out.nm).mono ?_
   rintro e w9 ⟨rfl,hb9⟩
   have HB9:=Lib.hid (HB7.out.trans (hb9.mono HB7.out.size))
   have HR9:=Lib.hid ((hb9.block _ (Array.getElem?_eq_some_iff.1 HR7.out).1).trans HR7.out)
   have HX9:=Lib.hid ((hb9.block _ (Array.getElem?_eq_some_iff.1 HXK.out).1).trans HXK.out)
   have HM9:=Lib.hid (HM7.out.below hb9 HM7.out.lt)
   have HS9:=Lib.hid (bytesBelow HS7.out hb9)
   have hw9:w8.heap.size<=w9.heap.size:=hb9.size
   clear hb9 HB7 HR7 HD7 HM7 HS7 HXK c0 c1
   have x0:w9.cell? ⟨bx,0,none⟩=some (.string ⟨#[]⟩):=cellAt HX9.out rfl
   have xf0:=frozen_of_row w9 bx 0 _ _ HX9.out
   go_upto_region 28 with fail
   have HXA:Hid ((w9.setCell ⟨bx,0,none⟩ (.string (cutOne h2.px h2.nm).1)).heap[bx]?=some (.cells #[.string (cutOne h2.px h2.nm).1,.int .i64 (kindOfT h2.typ),.string h2.lk,.int .i64 h2.mode,.int .i64 h2.uid,.int .i64 h2.gid,.string h2.user,.string h2.group,.int .i64 h2.time,.int .i64 0,.slice a7 d2.length c7] 26 (0,0))):=Lib.hid (heap_setCell_same _ _ 0 _ _ _ HX9.out)
   have hg:=grown_setC w9 bx 0 (.string (cutOne h2.px h2.nm).1)
   have HBA:=Lib.hid (HB9.out.setCell (p:=⟨bx,0,none⟩) (by simp;omega) (.string (cutOne h2.px h2.nm).1))
   have HRA:=Lib.hid ((hg.block _ (Array.getElem?_eq_some_iff.1 HR9.out).1 (by simp;omega)).trans HR9.out)
   have HMA:=Lib.hid (HM9.out.keep hg (by simp;omega))
   have HSA:=Lib.hid (bytesC_grown HS9.out hg (fun p hl hp e=>by have:=HDQ.out p hl hp;simp at e;omega))
   clear hg x0 xf0 HB9 HR9 HX9 HM9 HS9
   generalize w9.setCell ⟨bx,0,none⟩ (.string (cutOne h2.px h2.nm).1)=wA at *
   have hbxA:=(Array.getElem?_eq_some_iff.1 HXA.out).1
   go_wp2_with (first|(at_range;refine wpList_rangeB _ rfl _ _ rfl (mk:=(fun s:ByteArray=>Value.string s)) _ _ Tryz.underlying83 bm (putsR l2) (puts_keys l2) rfl HMA.out ?_;intro wB hitB hgB hsB)|go_in)
   go_frame
   have HXB:=Lib.hid ((hgB.block _ hbxA (by simp)).trans HXA.out)
   have hbmA:bm<wA.heap.size:=HMA.out.lt
   have HIB:=Lib.hid hitB
   have hbxr:bx<wA.heap.size:=hbxA
   have HGB:=Lib.hid (hgB.but (some bx))
   clear hitB hgB HXA HMA hbxA
   generalize hrA:wA.heap.size=r at *
   have HS0:Hid (∃ x,x=entSay h2 a7 c7 d2 (doneF (putsR l2) (putsR l2))/\wB.heap[bx]?=some (.cells #[.string x.path,.int .i64 x.kind,.string x.target,.int .i64 x.mt.mode,.int .i64 x.mt.uid,.int .i64 x.mt.gid,.string x.mt.user,.string x.mt.group,.int .i64 x.mt.second,.int .i64 x.mt.nano,.slice x.da x.data.length x.dcap] 26 (0,0))):=Lib.hid ⟨_,rfl,by
    rw [say_ext (g:=fun _=>none) (done_start (putsR l2))]
    exact HXB.out⟩
   go_loopw [19,20,21,22] (fun _ _ _ _ wr=>∃ (left:List (ByteArray×Value)) (x:Ent),Hid (x=entSay h2 a7 c7 d2 (doneF (putsR l2) left))/\Hid (IterOn (fun s:ByteArray=>Value.string s) wr r bm (putsR l2) left)/\Hid (wr.heap[bx]?=some (.cells #[.string x.path,.int .i64 x.kind,.string x.target,.int .i64 x.mt.mode,.int .i64 x.mt.uid,.int .i64 x.mt.gid,.string x.mt.user,.string x.mt.group,.int .i64 x.mt.second,.int .i64 x.mt.nano,.slice x.da x.data.length x.dcap] 26 (0,0)))/\Hid (wA.grownBy wr (some bx))) (fun _ _ _ _ wr=>wr.rangeLeft bm r)
   case atStart =>
    obtain ⟨x,hx,hrw⟩:=HS0.out
    exact ⟨_,x,Lib.hid hx,HIB,Lib.hid hrw,HGB⟩
   case round =>
    obtain ⟨left,x,HXE,HIT,HXR,HGR⟩:=hrel
    go_wp2_with (first|(at_next;refine wpList_nextB _ rfl _ rfl keyOn_str bm r (putsR l2) left rfl HIT.out ?_ ?_)|go_in)
    ·intro hnil
     subst hnil
     have hxe:x=unpackOf h2 l2 a7 c7 d2:=by rw [HXE.out,unpack_say];exact say_ext (done_end HND.out)
     have HB4:=Lib.hid (below_grown HBA.out HGR.out HBA.out.size (fun j hj=>by cases hj;omega))
     have HR4:=Lib.hid ((HGR.out.block _ (Array.getElem?_eq_some_iff.1 HRA.out).1 (by simp;omega)).trans HRA.out)
     have HS4:=Lib.hid (bytesC_grown HSA.out HGR.out (fun p hl hp e=>by have:=HDQ.out p hl hp;simp at e;omega))
     have HXBA:=Lib.hid (show x.bare=(unpackOf h2 l2 none 0 d2).bare by rw [hxe];exact unpack_bare _ _ _ _ _)
     have HXM:=Lib.hid (show memBytes x=memBytes (unpackOf h2 l2 none 0 d2) by rw [hxe];exact memBytes_place _ _ _ _ _ _ _)
     have HXO:=Lib.hid (fun W (hd:SliceC maxLen 1 ByteC W [.slice a7 d2.length c7] d2)=>show x.Ok maxLen W from by rw [hxe];exact unpack_ok HOK.out (fun r hr=>by have:=HLS2.out r hr;unfold maxLen;omega) hd)
     have HXA:=Lib.hid (show x.da=a7 by rw [hxe];rfl)
     clear hxe HXE HIT HGR HBA HRA HSA HIB HS0 HXB
     obtain ⟨w8,rfl⟩:∃ W:World,W=wr:=⟨_,rfl⟩
     obtain ⟨cx0,cx1,cx2,cx3,cx4,cx5,cx6,cx7,cx8,cx9,cx10⟩:=cells11 HXR.out
     have hbx8:=(Array.getElem?_eq_some_iff.1 HXR.out).1
     have HMW:=Lib.hid (MemB_any x w8 (HXO.out w8 HS4.out) (HT.out.below HB4.out))
     have HML:=Lib.hid (memBytes_small x)
     have HQ:Hid (memBytes (unpackOf h2 l2 none 0 d2)=memBytes x):=Lib.hid HXM.out.symm
     clear HXM
     generalize memBytes x=mb at *
     obtain ⟨m,em⟩:=mb
     simp only at HMW HML
     go_wp2_with fail
     refine HMW.out.mono ?_
     rintro e w9 ⟨v9,rfl,ho9,hb9⟩
     have HB9:=Lib.hid (HB4.out.trans (hb9.mono HB4.out.size))
     have HR9:=Lib.hid ((hb9.block _ (Array.getElem?_eq_some_iff.1 HR4.out).1).trans HR4.out)
     have HX9:=Lib.hid ((hb9.block _ hbx8).trans HXR.out)
     have HD9:=Lib.hid (bytesBelow HS4.out hb9)
     have hbd:∀ n,Below w9.heap.size w9 (w9.drewN n):=fun n=>⟨rfl,rfl,rfl,Nat.le_refl _,fun _ _=>rfl⟩
     have hcm:=fun n=>conv (w9.drewN n) (bytesBelow (ho9.slice (N:=maxLen) (Nat.le_trans HML.out (by unfold maxLen;decide))) (hbd n))
     have hct:=fun n=>HTK.out (w9.drewN n) n2 (HB9.out.trans ((hbd n).mono HB9.out.size)) hn2
     have HBD:=Lib.hid hbd
     have hsl:∀ n,(Instr.slice 24 (.slice a b.length cap) none (some (.int .i64 ((n2:Nat):Int))) none).run Tryz.prog (w9.drewN n) = .ok (.slice a n2 cap) (w9.drewN n):=fun n=>run_takeB (w9.drewN n) a b.length cap n2 hn2 hcp
     have hn2b:n2<=1048576:=Nat.le_trans hn2 hbl
     clear hbd hb9 HMW ho9 HXR HR4 HB4 HS4 cx0 cx1 cx2 cx3 cx4 cx5 cx6 cx7 cx8 cx9 cx10
     obtain ⟨r0,r1,r2,r3,r4,r5,r6,r7,r8,r9,r10⟩:=cells11 HR9.out
     obtain ⟨f0,f1,f2,f3,f4,f5,f6,f7,f8,f9,f10⟩:=froz11 HR9.out
     obtain ⟨c0,c1,c2,c3,c4,c5,c6,c7,c8,c9,c10⟩:=cells11 HX9.out
     by_cases hem:em=0
     ·have hq2:(em != 0)=false:=by rw [hem];rfl
      by_cases hmt:m=b.take n2
      ·have hne':=ne_t hmt
       have HF:=Lib.hid (HMF.out.trans (memEnd_ok HQ.out hmt hem))
       clear hem hmt HMF HQ
       go_upto_region 48 with fail
       go_quiet (fail)
       have hnb:bx≠w.heap.size:=by omega
       have hnb2:w.heap.size≠bx:=by omega
       go_wp2
       (try simp only [Exit.inBlock,Exit.then])
       refine bodyPost_ret (v := .tuple #[x.val,.int .i64 n2,.int .i64 0]) (by rw [results_cell_t3 rfl];go_simp) rfl ?_
       rw [HF.out]
       have hg:=fun n=>grown_row w.heap.size [.string x.path,.int .i64 x.kind,.string x.target,.int .i64 x.mt.mode,.int .i64 x.mt.uid,.int .i64 x.mt.gid,.string x.mt.user,.string x.mt.group,.int .i64 x.mt.second,.int .i64 x.mt.nano,.slice x.da x.data.length x.dcap] (w9.drewN n) 0
       exact ⟨x,rfl,⟨HXBA.out,HXO.out _ (bytesC_grown (bytesBelow HD9.out (HBD.out _)) (hg _) (fun p _ hp e=>by have:=HDP.out p hp;simp at e;omega)),fun p hp=>Nat.le_of_lt (HDP.out p (by rw [<-HXA.out];exact hp))⟩,Below.setRow (b:=w.heap.size) (Nat.le_refl _) [.string x.path,.int .i64 x.kind,.string x.target,.int .i64 x.mt.mode,.int .i64 x.mt.uid,.int .i64 x.mt.gid,.string x.mt.user,.string x.mt.group,.int .i64 x.mt.second,.int .i64 x.mt.nano,.slice x.da x.data.length x.dcap] w _ 0 (HB9.out.trans ((HBD.out _).mono HB9.out.size))⟩
      ·have hne':=ne_f hmt
       have HF:=Lib.hid (HMF.out.trans (memEnd_bad HQ.out (fun h=>hmt h.1)))
       clear hem hmt HMF HQ c0 c1 c2 c3 c4 c5 c6 c7 c8 c9 c10 r0 r1 r2 r3 r4 r5 r6 r7 r8 r9 r10 f0 f1 f2 f3 f4 f5 f6 f7 f8 f9 f10
       go_upto_region 48 with fail
       go_quiet (fail)
       have HBQ:=Lib.hid (HB9.out.trans ((HBD.out nq).mono HB9.out.size))
       have HRQ:Hid ((w9.drewN nq).heap[w.heap.size]?=some (.cells #[.string ⟨#[]⟩,.int .i64 0,.string ⟨#[]⟩,.int .i64 0,.int .i64 0,.int .i64 0,.string ⟨#[]⟩,.string ⟨#[]⟩,.int .i64 0,.int .i64 0,.slice none 0 0] 26 (0,0))):=HR9
       go_wp2_with fail
       refine (No_any 3 _).mono ?_
       rintro e wn7 ⟨rfl,hbn⟩
       have HBN:=Lib.hid (HBQ.out.trans (hbn.mono HBQ.out.size))
       have HRN:=Lib.hid ((hbn.block _ (Array.getElem?_eq_some_iff.1 (HRQ.out)).1).trans (HRQ.out))
       clear hbn
       obtain ⟨rn0,rn1,rn2,rn3,rn4,rn5,rn6,rn7,rn8,rn9,rn10⟩:=cells11 HRN.out
       obtain ⟨fn0,fn1,fn2,fn3,fn4,fn5,fn6,fn7,fn8,fn9,fn10⟩:=froz11 HRN.out
       go_wp2
       (try simp only [Exit.inBlock,Exit.then])
       refine bodyPost_ret (v := .tuple #[.agg #[.string ⟨#[]⟩,.int .i64 0,.string ⟨#[]⟩,.int .i64 0,.int .i64 0,.int .i64 0,.string ⟨#[]⟩,.string ⟨#[]⟩,.int .i64 0,.int .i64 0,.slice none 0 0],.int .i64 0,.int .i64 3]) (by rw [results_cell_t3 rfl];go_simp) rfl ?_
       rw [HF.out]
       exact ⟨entNone,rfl,entNone_out _ _,(((((((((((HBN.out.setCell (p:=⟨w.heap.size,0,none⟩) (Nat.le_refl _) (.string ⟨#[]⟩)).setCell (p:=⟨w.heap.size,1,none⟩) (Nat.le_refl _) (.int .i64 0)).setCell (p:=⟨w.heap.size,2,none⟩) (Nat.le_refl _) (.string ⟨#[]⟩)).setCell (p:=⟨w.heap.size,3,none⟩) (Nat.le_refl _) (.int .i64 0)).setCell (p:=⟨w.heap.size,4,none⟩) (Nat.le_refl _) (.int .i64 0)).setCell (p:=⟨w.heap.size,5,none⟩) (Nat.le_refl _) (.int .i64 0)).setCell (p:=⟨w.heap.size,6,none⟩) (Nat.le_refl _) (.string ⟨#[]⟩)).setCell (p:=⟨w.heap.size,7,none⟩) (Nat.le_refl _) (.string ⟨#[]⟩)).setCell (p:=⟨w.heap.size,8,none⟩) (Nat.le_refl _) (.int .i64 0)).setCell (p:=⟨w.heap.size,9,none⟩) (Nat.le_refl _) (.int .i64 0)).setCell (p:=⟨w.heap.size,10,none⟩) (Nat.le_refl _) (.slice none 0 0))⟩
     ·have hq2:(em != 0)=true:=by rw [bne_iff_ne];exact hem
      have HF:=Lib.hid (HMF.out.trans (memEnd_bad HQ.out (fun h=>hem h.2)))
      clear hem HMF HQ c0 c1 c2 c3 c4 c5 c6 c7 c8 c9 c10 r0 r1 r2 r3 r4 r5 r6 r7 r8 r9 r10 f0 f1 f2 f3 f4 f5 f6 f7 f8 f9 f10
      go_upto_region 48 with fail
      go_quiet (fail)
      have HBQ:=Lib.hid (HB9.out.trans ((HBD.out nq).mono HB9.out.size))
      have HRQ:Hid ((w9.drewN nq).heap[w.heap.size]?=some (.cells #[.string ⟨#[]⟩,.int .i64 0,.string ⟨#[]⟩,.int .i64 0,.int .i64 0,.int .i64 0,.string ⟨#[]⟩,.string ⟨#[]⟩,.int .i64 0,.int .i64 0,.slice none 0 0] 26 (0,0))):=HR9
      go_wp2_with fail
      refine (No_any 3 _).mono ?_
      rintro e wn8 ⟨rfl,hbn⟩
      have HBN:=Lib.hid (HBQ.out.trans (hbn.mono HBQ.out.size))
      have HRN:=Lib.hid ((hbn.block _ (Array.getElem?_eq_some_iff.1 (HRQ.out)).1).trans (HRQ.out))
      clear hbn
      obtain ⟨rn0,rn1,rn2,rn3,rn4,rn5,rn6,rn7,rn8,rn9,rn10⟩:=cells11 HRN.out
      obtain ⟨fn0,fn1,fn2,fn3,fn4,fn5,fn6,fn7,fn8,fn9,fn10⟩:=froz11 HRN.out
      go_wp2
      (try simp only [Exit.inBlock,Exit.then])
      refine bodyPost_ret (v := .tuple #[.agg #[.string ⟨#[]⟩,.int .i64 0,.string ⟨#[]⟩,.int .i64 0,.int .i64 0,.int .i64 0,.string ⟨#[]⟩,.string ⟨#[]⟩,.int .i64 0,.int .i64 0,.slice none 0 0],.int .i64 0,.int .i64 3]) (by rw [results_cell_t3 rfl];go_simp) rfl ?_
      rw [HF.out]
      exact ⟨entNone,rfl,entNone_out _ _,(((((((((((HBN.out.setCell (p:=⟨w.heap.size,0,none⟩) (Nat.le_refl _) (.string ⟨#[]⟩)).setCell (p:=⟨w.heap.size,1,none⟩) (Nat.le_refl _) (.int .i64 0)).setCell (p:=⟨w.heap.size,2,none⟩) (Nat.le_refl _) (.string ⟨#[]⟩)).setCell (p:=⟨w.heap.size,3,none⟩) (Nat.le_refl _) (.int .i64 0)).setCell (p:=⟨w.heap.size,4,none⟩) (Nat.le_refl _) (.int .i64 0)).setCell (p:=⟨w.heap.size,5,none⟩) (Nat.le_refl _) (.int .i64 0)).setCell (p:=⟨w.heap.size,6,none⟩) (Nat.le_refl _) (.string ⟨#[]⟩)).setCell (p:=⟨w.heap.size,7,none⟩) (Nat.le_refl _) (.string ⟨#[]⟩)).setCell (p:=⟨w.heap.size,8,none⟩) (Nat.le_refl _) (.int .i64 0)).setCell (p:=⟨w.heap.size,9,none⟩) (Nat.le_refl _) (.int .i64 0)).setCell (p:=⟨w.heap.size,10,none⟩) (Nat.le_refl _) (.slice none 0 0))⟩
    ·intro p1 p2 hp w1 hi1 hg1 hs1 hen
     obtain ⟨rc,hrc,hpe⟩:=puts_mem (HIT.out.2.2.1 (p1,p2) hp)
     obtain ⟨key,value⟩:=rc
     simp only [Prod.mk.injEq] at hpe
     obtain ⟨rfl,rfl⟩:=hpe
     obtain ⟨key,hkk⟩:∃ k,k=p1:=⟨_,rfl⟩
     subst hkk
     have hvs:=(HLS2.out _ hrc).2
     simp only at hvs hi1 hen
     have HSTEP:=Lib.hid (say_step (h:=h2) (da:=a7) (dcap:=c7) (d:=d2) hp HIT.out.2.2.1 (puts_keys l2))
     simp only [strV] at HSTEP
     rw [<-HXE.out] at HSTEP
     have HFW:=Lib.hid (IterOn.fewer hp)
     have HL0:=Lib.hid HIT.out.left_eq
     have hrl:r<wr.heap.size:=HIT.out.lt
     have hb1l:bx<wr.heap.size:=(Array.getElem?_eq_some_iff.1 HXR.out).1
     have HX1:=Lib.hid ((hg1.block bx hb1l (by simp;omega)).trans HXR.out)
     have HG1:=Lib.hid (HGR.out.andThen hg1 (fun j hj=>by cases hj;exact .inl (by omega)))
     have HI1:=Lib.hid hi1
     clear hg1 hi1 HXR HIT hp hrc
     have HB1:=Lib.hid (below_grown HBA.out HG1.out HBA.out.size (fun j hj=>by cases hj;omega))
     have hvs2:value.size<=140737488355328:=by omega
     have HAT:=Lib.hid (Atoi_any value w1 hvs2 (HE.out.below HB1.out))
     go_wp2_with fail
     refine HAT.out.mono ?_
     rintro e w2 ⟨⟨ev,rfl⟩,hb2⟩
     have HX2:=Lib.hid ((hb2.block _ (Array.getElem?_eq_some_iff.1 HX1.out).1).trans HX1.out)
     have HG2:=Lib.hid (HG1.out.andThen (grownBelow (some bx) hb2) (fun j hj => .inr hj))
     have HI2:=Lib.hid (HI1.out.below hb2 (by omega) (by omega))
     have HB2:=Lib.hid (HB1.out.trans (hb2.mono HB1.out.size))
     clear hb2 HX1 HG1 HI1 HB1 HAT hen hs1
     by_cases e0:key=kGid
     ·subst e0
      have HP:Hid (entSay h2 a7 c7 d2 (doneF (putsR l2) (left.filter (fun q => !decide (q.1=kGid))))=entPut x kGid value):=HSTEP
      have x5:w2.cell? ⟨bx,5,none⟩=some (.int .i64 x.mt.gid):=cellAt HX2.out rfl
      have xf5:=frozen_of_row w2 bx 5 _ _ HX2.out
      go_wp2_with fail
      go_roundw
      case rel=>exact ⟨_,entPut x kGid value,Lib.hid HP.out.symm,Lib.hid (HI2.out.keep (grown_setC _ bx 5 _) (by simp;omega) (by simp;omega)),Lib.hid ((heap_setCell_same _ _ 5 _ _ _ HX2.out)),Lib.hid (grown_two HG2.out (grown_setC _ _ _ _))⟩
      case measure=>rw [((HI2.out.keep (grown_setC _ bx 5 _) (by simp;omega) (by simp;omega))).left_eq,HL0.out];exact HFW.out
     ·have HN0:=Lib.hid e0
      clear e0
      by_cases e1:key=kGname
      ·subst e1
       have HP:Hid (entSay h2 a7 c7 d2 (doneF (putsR l2) (left.filter (fun q => !decide (q.1=kGname))))=entPut x kGname value):=HSTEP
       have x7:w2.cell? ⟨bx,7,none⟩=some (.string x.mt.group):=cellAt HX2.out rfl
       have xf7:=frozen_of_row w2 bx 7 _ _ HX2.out
       go_wp2_with fail
       go_roundw
       case rel=>exact ⟨_,entPut x kGname value,Lib.hid HP.out.symm,Lib.hid (HI2.out.keep (grown_setC _ bx 7 _) (by simp;omega) (by simp;omega)),Lib.hid ((heap_setCell_same _ _ 7 _ _ _ HX2.out)),Lib.hid (grown_two HG2.out (grown_setC _ _ _ _))⟩
       case measure=>rw [((HI2.out.keep (grown_setC _ bx 7 _) (by simp;omega) (by simp;omega))).left_eq,HL0.out];exact HFW.out
      ·have HN1:=Lib.hid e1
       clear e1
       by_cases e2:key=kLink
       ·subst e2
        have HP:Hid (entSay h2 a7 c7 d2 (doneF (putsR l2) (left.filter (fun q => !decide (q.1=kLink))))=entPut x kLink value):=HSTEP
        have x2:w2.cell? ⟨bx,2,none⟩=some (.string x.target):=cellAt HX2.out rfl
        have xf2:=frozen_of_row w2 bx 2 _ _ HX2.out
        go_wp2_with fail
        go_roundw
        case rel=>exact ⟨_,entPut x kLink value,Lib.hid HP.out.symm,Lib.hid (HI2.out.keep (grown_setC _ bx 2 _) (by simp;omega) (by simp;omega)),Lib.hid ((heap_setCell_same _ _ 2 _ _ _ HX2.out)),Lib.hid (grown_two HG2.out (grown_setC _ _ _ _))⟩
        case measure=>rw [((HI2.out.keep (grown_setC _ bx 2 _) (by simp;omega) (by simp;omega))).left_eq,HL0.out];exact HFW.out
       ·have HN2:=Lib.hid e2
        clear e2
        by_cases e3:key=kMtime
        ·subst e3
         have HP:Hid (entSay h2 a7 c7 d2 (doneF (putsR l2) (left.filter (fun q => !decide (q.1=kMtime))))=entPut x kMtime value):=HSTEP
         obtain ⟨lv,rfl⟩:∃ lv,value=ofL lv:=⟨value.data.toList,ByteArray.ext (by simp [ofL])⟩
         have hlv:(ofL lv).data.toList=lv:=by simp [ofL]
         have hlz:lv.length<=maxLen:=by rw [ofL_size] at hvs;unfold maxLen;omega
         have HTO:=Lib.hid (TimeOf_any lv w2 hlz (HT.out.below HB2.out))
         rw [<-time_both] at HTO
         go_wp2_with fail
         refine HTO.out.mono ?_
         rintro e w3 ⟨rfl,hb3⟩
         have HX3:=Lib.hid ((hb3.block _ (Array.getElem?_eq_some_iff.1 HX2.out).1).trans HX2.out)
         have HG3:=Lib.hid (HG2.out.andThen (grownBelow (some bx) hb3) (fun j hj => .inr hj))
         have HI3:=Lib.hid (HI2.out.below hb3 (Nat.lt_of_lt_of_le hbmA (Nat.le_of_lt HI2.out.lt)) HI2.out.lt)
         clear hb3 HTO
         have x8:w3.cell? ⟨bx,8,none⟩=some (.int .i64 x.mt.second):=cellAt HX3.out rfl
         have xf8:=frozen_of_row w3 bx 8 _ _ HX3.out
         have x9:w3.cell? ⟨bx,9,none⟩=some (.int .i64 x.mt.nano):=cellAt HX3.out rfl
         have xf9:=frozen_of_row w3 bx 9 _ _ HX3.out
         go_wp2_with fail
         go_roundw
         case rel=>exact ⟨_,entPut x kMtime (ofL lv),Lib.hid HP.out.symm,Lib.hid ((HI3.out.keep (grown_setC _ bx 8 _) (by simp;omega) (by simp;omega)).keep (grown_setC _ bx 9 _) (by simp;omega) (by simp;omega)),Lib.hid (by rw [show timeAns lv (rawP lv)=timeAns (ofL lv).data.toList (rawP (ofL lv).data.toList) by rw [hlv]];exact (heap_setCell_same _ _ 9 _ _ _ (heap_setCell_same _ _ 8 _ _ _ HX3.out))),Lib.hid (grown_two (grown_two HG3.out (grown_setC _ _ _ _)) (grown_setC _ _ _ _))⟩
         case measure=>rw [(((HI3.out.keep (grown_setC _ bx 8 _) (by simp;omega) (by simp;omega)).keep (grown_setC _ bx 9 _) (by simp;omega) (by simp;omega))).left_eq,HL0.out];exact HFW.out
        ·have HN3:=Lib.hid e3
         clear e3
         by_cases e4:key=kPath
         ·subst e4
          have HP:Hid (entSay h2 a7 c7 d2 (doneF (putsR l2) (left.filter (fun q => !decide (q.1=kPath))))=entPut x kPath value):=HSTEP
          have x0:w2.cell? ⟨bx,0,none⟩=some (.string x.path):=cellAt HX2.out rfl
          have xf0:=frozen_of_row w2 bx 0 _ _ HX2.out
          go_wp2_with fail
          go_roundw
          case rel=>exact ⟨_,entPut x kPath value,Lib.hid HP.out.symm,Lib.hid (HI2.out.keep (grown_setC _ bx 0 _) (by simp;omega) (by simp;omega)),Lib.hid ((heap_setCell_same _ _ 0 _ _ _ HX2.out)),Lib.hid (grown_two HG2.out (grown_setC _ _ _ _))⟩
          case measure=>rw [((HI2.out.keep (grown_setC _ bx 0 _) (by simp;omega) (by simp;omega))).left_eq,HL0.out];exact HFW.out
         ·have HN4:=Lib.hid e4
          clear e4
          by_cases e5:key=kUid
          ·subst e5
           have HP:Hid (entSay h2 a7 c7 d2 (doneF (putsR l2) (left.filter (fun q => !decide (q.1=kUid))))=entPut x kUid value):=HSTEP
           have x4:w2.cell? ⟨bx,4,none⟩=some (.int .i64 x.mt.uid):=cellAt HX2.out rfl
           have xf4:=frozen_of_row w2 bx 4 _ _ HX2.out
           go_wp2_with fail
           go_roundw
           case rel=>exact ⟨_,entPut x kUid value,Lib.hid HP.out.symm,Lib.hid (HI2.out.keep (grown_setC _ bx 4 _) (by simp;omega) (by simp;omega)),Lib.hid ((heap_setCell_same _ _ 4 _ _ _ HX2.out)),Lib.hid (grown_two HG2.out (grown_setC _ _ _ _))⟩
           case measure=>rw [((HI2.out.keep (grown_setC _ bx 4 _) (by simp;omega) (by simp;omega))).left_eq,HL0.out];exact HFW.out
          ·have HN5:=Lib.hid e5
           clear e5
           by_cases e6:key=kUname
           ·subst e6
            have HP:Hid (entSay h2 a7 c7 d2 (doneF (putsR l2) (left.filter (fun q => !decide (q.1=kUname))))=entPut x kUname value):=HSTEP
            have x6:w2.cell? ⟨bx,6,none⟩=some (.string x.mt.user):=cellAt HX2.out rfl
            have xf6:=frozen_of_row w2 bx 6 _ _ HX2.out
            go_wp2_with fail
            go_roundw
            case rel=>exact ⟨_,entPut x kUname value,Lib.hid HP.out.symm,Lib.hid (HI2.out.keep (grown_setC _ bx 6 _) (by simp;omega) (by simp;omega)),Lib.hid ((heap_setCell_same _ _ 6 _ _ _ HX2.out)),Lib.hid (grown_two HG2.out (grown_setC _ _ _ _))⟩
            case measure=>rw [((HI2.out.keep (grown_setC _ bx 6 _) (by simp;omega) (by simp;omega))).left_eq,HL0.out];exact HFW.out
           ·have HN6:=Lib.hid e6
            clear e6
            have HP:Hid (entSay h2 a7 c7 d2 (doneF (putsR l2) (left.filter (fun q => !decide (q.1=key))))=x):=Lib.hid (HSTEP.out.trans (by unfold entPut;rw [if_neg HN0.out,if_neg HN1.out,if_neg HN2.out,if_neg HN3.out,if_neg HN4.out,if_neg HN5.out,if_neg HN6.out]))
            have n0:(key.toList==kGid.toList)=false:=seq_f HN0.out
            have m0:(key.toList==[103,105,100])=false:=by have h9:=n0;rw [Lib.toList_data kGid] at h9;exact h9
            have n1:(key.toList==kGname.toList)=false:=seq_f HN1.out
            have m1:(key.toList==[103,110,97,109,101])=false:=by have h9:=n1;rw [Lib.toList_data kGname] at h9;exact h9
            have n2:(key.toList==kLink.toList)=false:=seq_f HN2.out
            have m2:(key.toList==[108,105,110,107,112,97,116,104])=false:=by have h9:=n2;rw [Lib.toList_data kLink] at h9;exact h9
            have n3:(key.toList==kMtime.toList)=false:=seq_f HN3.out
            have m3:(key.toList==[109,116,105,109,101])=false:=by have h9:=n3;rw [Lib.toList_data kMtime] at h9;exact h9
            have n4:(key.toList==kPath.toList)=false:=seq_f HN4.out
            have m4:(key.toList==[112,97,116,104])=false:=by have h9:=n4;rw [Lib.toList_data kPath] at h9;exact h9
            have n5:(key.toList==kUid.toList)=false:=seq_f HN5.out
            have m5:(key.toList==[117,105,100])=false:=by have h9:=n5;rw [Lib.toList_data kUid] at h9;exact h9
            have n6:(key.toList==kUname.toList)=false:=seq_f HN6.out
            have m6:(key.toList==[117,110,97,109,101])=false:=by have h9:=n6;rw [Lib.toList_data kUname] at h9;exact h9
            clear HN0 HN1 HN2 HN3 HN4 HN5 HN6
            go_wp2_with fail
            go_roundw
            case rel=>exact ⟨_,x,Lib.hid HP.out.symm,HI2,HX2,HG2⟩
            case measure=>rw [HI2.out.left_eq,HL0.out];exact HFW.out
theorem MemO_any (v : Value) (b : List UInt8) (w : World) (h : SliceC maxLen 1 ByteC w [v] b) (hbl : b.length ≤ 1048576) (hE : ErrsOk w) (hT : Pow10 w) :
 Calls Tryz.prog 20 #[v] w (RetEnt w (memOf b)):=by
 obtain ⟨⟨h1,d1,r1,e1⟩,hk⟩:∃ q,blockOf b=q:=⟨_,rfl⟩
 by_cases he:e1=0
 ·subst he
  by_cases ht:h1.typ=120
  ·obtain ⟨⟨l,e2⟩,hp⟩:∃ q,paxOf (ofL d1)=q:=⟨_,rfl⟩
   by_cases he2:e2=0
   ·subst he2
    obtain ⟨⟨h2,d2,r2,e3⟩,hk2⟩:∃ q,blockOf r1=q:=⟨_,rfl⟩
    by_cases he3:e3=0
    ·subst he3
     exact MemO_good v b w h hbl hE hT hk (fun _=>⟨l,h2,d2,r2,hp,hk2⟩)
    ·exact MemO_bad3 v b w h hbl hE hT hk ht hp hk2 he3
   ·exact MemO_bad2 v b w h hbl hE hT hk ht hp he2
  ·exact MemO_good v b w h hbl hE hT hk (fun e=>absurd e ht)
 ·exact MemO_bad1 v b w h hbl hE hT hk he
end Go.Proofs.YtaffgndickdbiaaGreatDoor
