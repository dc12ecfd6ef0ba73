/-
  Texts: MemRd.
-/
import Derived.Test.YtaffgndickdbiaaGreatDoorQ17
import Derived.Test.YtaffgndickdbiaaGreatDoorQ22
import Derived.Test.YtaffgndickdbiaaGreatDoorQ24
set_option linter.unusedVariables false
set_option linter.unusedSimpArgs false
set_option linter.unusedSectionVars false
namespace Go.Proofs.YtaffgndickdbiaaGreatDoor
open Go.Creel Go.RowKit
set_option maxRecDepth 100000 in
set_option maxHeartbeats 1000000 in
theorem MemRd_bad1 (v : Value) (b : List UInt8) (w : World) (h : SliceC maxLen 1 ByteC w [v] b) (hbl : b.length ≤ 1048576) (hM : MaxOk w) (hE : ErrsOk w) (hT : Pow10 w) {h1 : HeadN} {d1 r1 : List UInt8} {e1 : Int} (hk : blockOf b = (h1,d1,r1,e1)) (he : ¬ e1 = 0) :
 Calls Tryz.prog 19 #[v] w (RetEnt w (memOf b)):=by
 obtain ⟨a,cap,hv,hcp⟩:=bytes_form h
 subst hv
 have HBK:=Lib.hid (fun W (hb:Below w.heap.size w W)=>Block_any (.slice a b.length cap) b W (h.below (fun _ _ h=>h) hb) hbl)
 have HBZ:=Lib.hid ((Below.refl w.heap.size w).alloc (Nat.le_refl _) (.cells #[.string ⟨#[]⟩,.int .i64 0,.string ⟨#[]⟩,.int .i64 0,.int .i64 0,.int .i64 0,.string ⟨#[]⟩,.string ⟨#[]⟩,.int .i64 0,.int .i64 0,.slice none 0 0] 26))
 have HRZ:Hid ((w.alloc (.cells #[.string ⟨#[]⟩,.int .i64 0,.string ⟨#[]⟩,.int .i64 0,.int .i64 0,.int .i64 0,.string ⟨#[]⟩,.string ⟨#[]⟩,.int .i64 0,.int .i64 0,.slice none 0 0] 26)).heap[w.heap.size]?=some (.cells #[.string ⟨#[]⟩,.int .i64 0,.string ⟨#[]⟩,.int .i64 0,.int .i64 0,.int .i64 0,.string ⟨#[]⟩,.string ⟨#[]⟩,.int .i64 0,.int .i64 0,.slice none 0 0] 26 (0,0))):=Lib.hid (heap_alloc_new _ _)
 have HF:=Lib.hid (memOf_bad1 hk he)
 rw [hk] at HBK
 have hq:(e1 != 0)=true:=by rw [bne_iff_ne];exact he
 clear h hk he hM hE hT
 go_enter Tryz.func19,Tryz.ntmps19
 go_wp2_with fail
 refine (HBK.out _ HBZ.out).mono ?_
 rintro e w1 ⟨v1,v2,rfl,ho1,ho2,hb⟩
 have HB1:=Lib.hid (HBZ.out.trans (hb.mono HBZ.out.size))
 have HR1:=Lib.hid ((hb.block _ (Array.getElem?_eq_some_iff.1 HRZ.out).1).trans HRZ.out)
 have hlr:=(Array.getElem?_eq_some_iff.1 HR1.out).1
 clear hb HRZ HBK HBZ
 obtain ⟨r0,r1,r2,r3,r4,r5,r6,r7,r8,r9,r10⟩:=cells11 HR1.out
 obtain ⟨f0,f1,f2,f3,f4,f5,f6,f7,f8,f9,f10⟩:=froz11 HR1.out
 go_upto_region 3 with fail
 go_wp2
 (try simp only [Exit.inBlock,Exit.then])
 refine bodyPost_ret (v := .tuple #[.agg #[.string ⟨#[]⟩,.int .i64 0,.string ⟨#[]⟩,.int .i64 0,.int .i64 0,.int .i64 0,.string ⟨#[]⟩,.string ⟨#[]⟩,.int .i64 0,.int .i64 0,.slice none 0 0],.int .i64 0,.int .i64 e1]) (by rw [results_cell_t3 rfl];go_simp) rfl ?_
 rw [HF.out]
 have X:=Lib.hid ((((((((((((HB1.out.setCell (p:=⟨w.heap.size,0,none⟩) (Nat.le_refl _) (.string ⟨#[]⟩)).setCell (p:=⟨w.heap.size,1,none⟩) (Nat.le_refl _) (.int .i64 0)).setCell (p:=⟨w.heap.size,2,none⟩) (Nat.le_refl _) (.string ⟨#[]⟩)).setCell (p:=⟨w.heap.size,3,none⟩) (Nat.le_refl _) (.int .i64 0)).setCell (p:=⟨w.heap.size,4,none⟩) (Nat.le_refl _) (.int .i64 0)).setCell (p:=⟨w.heap.size,5,none⟩) (Nat.le_refl _) (.int .i64 0)).setCell (p:=⟨w.heap.size,6,none⟩) (Nat.le_refl _) (.string ⟨#[]⟩)).setCell (p:=⟨w.heap.size,7,none⟩) (Nat.le_refl _) (.string ⟨#[]⟩)).setCell (p:=⟨w.heap.size,8,none⟩) (Nat.le_refl _) (.int .i64 0)).setCell (p:=⟨w.heap.size,9,none⟩) (Nat.le_refl _) (.int .i64 0)).setCell (p:=⟨w.heap.size,10,none⟩) (Nat.le_refl _) (.slice none 0 0)))
 exact ⟨entNone,rfl,entNone_out _ _,X.out.alloc X.out.size _⟩
set_option maxRecDepth 100000 in
set_option maxHeartbeats 1000000 in
theorem MemRd_bad2 (v : Value) (b : List UInt8) (w : World) (h : SliceC maxLen 1 ByteC w [v] b) (hbl : b.length ≤ 1048576) (hM : MaxOk w) (hE : ErrsOk w) (hT : Pow10 w) {h1 : HeadN} {d1 r1 : List UInt8} (hk : blockOf b = (h1,d1,r1,0)) (ht : h1.typ = 120) {l : List Rec} {e2 : Int} (hp : paxOf (ofL d1) = (l,e2)) (he : ¬ e2 = 0) :
 Calls Tryz.prog 19 #[v] w (RetEnt w (memOf b)):=by
 obtain ⟨a,cap,hv,hcp⟩:=bytes_form h
 subst hv
 have HBK:=Lib.hid (fun W (hb:Below w.heap.size w W)=>Block_any (.slice a b.length cap) b W (h.below (fun _ _ h=>h) hb) hbl)
 have HBZ:=Lib.hid ((Below.refl w.heap.size w).alloc (Nat.le_refl _) (.cells #[.string ⟨#[]⟩,.int .i64 0,.string ⟨#[]⟩,.int .i64 0,.int .i64 0,.int .i64 0,.string ⟨#[]⟩,.string ⟨#[]⟩,.int .i64 0,.int .i64 0,.slice none 0 0] 26))
 have HRZ:Hid ((w.alloc (.cells #[.string ⟨#[]⟩,.int .i64 0,.string ⟨#[]⟩,.int .i64 0,.int .i64 0,.int .i64 0,.string ⟨#[]⟩,.string ⟨#[]⟩,.int .i64 0,.int .i64 0,.slice none 0 0] 26)).heap[w.heap.size]?=some (.cells #[.string ⟨#[]⟩,.int .i64 0,.string ⟨#[]⟩,.int .i64 0,.int .i64 0,.int .i64 0,.string ⟨#[]⟩,.string ⟨#[]⟩,.int .i64 0,.int .i64 0,.slice none 0 0] 26 (0,0))):=Lib.hid (heap_alloc_new _ _)
 have hty:((h1.typ.toNat:Int)==120)=true:=by rw [ht];rfl
 have HF:=Lib.hid (memOf_bad2 hk ht hp he)
 have HK:=Lib.hid hk
 have HT:=Lib.hid hT
 rw [hk] at HBK
 have hq:(e2 != 0)=true:=by rw [bne_iff_ne];exact he
 clear h hk he hM hE hT ht
 go_enter Tryz.func19,Tryz.ntmps19
 go_wp2_with fail
 refine (HBK.out _ HBZ.out).mono ?_
 rintro e w1 ⟨v1,v2,rfl,ho1,ho2,hb⟩
 have HB1:=Lib.hid (HBZ.out.trans (hb.mono HBZ.out.size))
 have HR1:=Lib.hid ((hb.block _ (Array.getElem?_eq_some_iff.1 HRZ.out).1).trans HRZ.out)
 have hlr:=(Array.getElem?_eq_some_iff.1 HR1.out).1
 clear hb HRZ HBK HBZ
 obtain ⟨a1,c1,rfl,hp1⟩:=ho1.place
 obtain ⟨a2,c2,rfl,hp2⟩:=ho2.place
 have hl1:=blockOf_len HK.out rfl
 have HS1:=Lib.hid (ho1.slice (N:=maxLen) (Nat.le_trans (Nat.le_trans hl1.1 hbl) (by unfold maxLen;decide)))
 have HS2:=Lib.hid (ho2.slice (N:=maxLen) (Nat.le_trans (Nat.le_trans hl1.2 hbl) (by unfold maxLen;decide)))
 have HP1:=Lib.hid hp1
 have HP2:=Lib.hid hp2
 clear ho1 ho2 hp1 hp2
 go_upto_region 6 with fail
 have HA:=Lib.hid ((Below.refl w1.heap.size w1).alloc (Nat.le_refl _) (.cells #[.string h1.nm,.string h1.px,.string h1.lk,.int .i64 h1.mode,.int .i64 h1.uid,.int .i64 h1.gid,.int .i64 h1.size,.int .i64 h1.time,.int .u8 h1.typ.toNat,.string h1.user,.string h1.group] 62))
 have HB2:=Lib.hid (HB1.out.trans (HA.out.mono HB1.out.size))
 have HD2:Hid ((w1.alloc (.cells #[.string h1.nm,.string h1.px,.string h1.lk,.int .i64 h1.mode,.int .i64 h1.uid,.int .i64 h1.gid,.int .i64 h1.size,.int .i64 h1.time,.int .u8 h1.typ.toNat,.string h1.user,.string h1.group] 62)).heap[w1.heap.size]?=some (.cells #[.string h1.nm,.string h1.px,.string h1.lk,.int .i64 h1.mode,.int .i64 h1.uid,.int .i64 h1.gid,.int .i64 h1.size,.int .i64 h1.time,.int .u8 h1.typ.toNat,.string h1.user,.string h1.group] 62 (0,0))):=Lib.hid (heap_alloc_new _ _)
 have HR2:=Lib.hid ((HA.out.block _ hlr).trans HR1.out)
 have HS3:=Lib.hid (bytesBelow HS1.out HA.out)
 have HS4:=Lib.hid (bytesBelow HS2.out HA.out)
 have HP3:Hid (∀ p,a1=some p->w.heap.size<p.block/\p.block<w1.heap.size):=Lib.hid (fun p hp=>⟨by have:=(HP1.out p hp).1;simp at this;omega,(HP1.out p hp).2⟩)
 have hne:w.heap.size<w1.heap.size:=hlr
 generalize w1.heap.size=bh at *
 generalize w1.alloc (.cells #[.string h1.nm,.string h1.px,.string h1.lk,.int .i64 h1.mode,.int .i64 h1.uid,.int .i64 h1.gid,.int .i64 h1.size,.int .i64 h1.time,.int .u8 h1.typ.toNat,.string h1.user,.string h1.group] 62)=w2 at *
 clear HA HB1 HR1 HS1 HS2 HP1 HP2 hlr
 have hcv:=conv w2 HS3.out
 have HPX:=Lib.hid (PaxRead_any (ofL d1) w2 (by rw [ofL_size];exact Nat.le_trans hl1.1 hbl) (HT.out.below HB2.out))
 rw [hp] at HPX
 go_wp2_with fail
 refine HPX.out.mono ?_
 rintro e w3 ⟨v3,rfl,ho3,hb3⟩
 have HB3:=Lib.hid (HB2.out.trans (hb3.mono HB2.out.size))
 have HR3:=Lib.hid ((hb3.block _ (Array.getElem?_eq_some_iff.1 HR2.out).1).trans HR2.out)
 have HD3:=Lib.hid ((hb3.block _ (Array.getElem?_eq_some_iff.1 HD2.out).1).trans HD2.out)
 have HS5:=Lib.hid (bytesBelow HS4.out hb3)
 have hbh3:bh<w3.heap.size:=(Array.getElem?_eq_some_iff.1 HD3.out).1
 have HO3:=Lib.hid ho3
 have HZ3:Hid (bh<w2.heap.size):=Lib.hid (Array.getElem?_eq_some_iff.1 HD2.out).1
 clear hcv HPX hb3 ho3 HB2 HR2 HD2 HS3 HS4
 obtain ⟨r0,r1,r2,r3,r4,r5,r6,r7,r8,r9,r10⟩:=cells11 HR3.out
 obtain ⟨f0,f1,f2,f3,f4,f5,f6,f7,f8,f9,f10⟩:=froz11 HR3.out
 go_upto_region 8 with fail
 go_wp2
 (try simp only [Exit.inBlock,Exit.then])
 refine bodyPost_ret (v := .tuple #[.agg #[.string ⟨#[]⟩,.int .i64 0,.string ⟨#[]⟩,.int .i64 0,.int .i64 0,.int .i64 0,.string ⟨#[]⟩,.string ⟨#[]⟩,.int .i64 0,.int .i64 0,.slice none 0 0],.int .i64 0,.int .i64 e2]) (by rw [results_cell_t3 rfl];go_simp) rfl ?_
 rw [HF.out]
 exact ⟨entNone,rfl,entNone_out _ _,(((((((((((HB3.out.setCell (p:=⟨w.heap.size,0,none⟩) (Nat.le_refl _) (.string ⟨#[]⟩)).setCell (p:=⟨w.heap.size,1,none⟩) (Nat.le_refl _) (.int .i64 0)).setCell (p:=⟨w.heap.size,2,none⟩) (Nat.le_refl _) (.string ⟨#[]⟩)).setCell (p:=⟨w.heap.size,3,none⟩) (Nat.le_refl _) (.int .i64 0)).setCell (p:=⟨w.heap.size,4,none⟩) (Nat.le_refl _) (.int .i64 0)).setCell (p:=⟨w.heap.size,5,none⟩) (Nat.le_refl _) (.int .i64 0)).setCell (p:=⟨w.heap.size,6,none⟩) (Nat.le_refl _) (.string ⟨#[]⟩)).setCell (p:=⟨w.heap.size,7,none⟩) (Nat.le_refl _) (.string ⟨#[]⟩)).setCell (p:=⟨w.heap.size,8,none⟩) (Nat.le_refl _) (.int .i64 0)).setCell (p:=⟨w.heap.size,9,none⟩) (Nat.le_refl _) (.int .i64 0)).setCell (p:=⟨w.heap.size,10,none⟩) (Nat.le_refl _) (.slice none 0 0))⟩
set_option maxRecDepth 100000 in
set_option maxHeartbeats 1000000 in
theorem MemRd_bad3 (v : Value) (b : List UInt8) (w : World) (h : SliceC maxLen 1 ByteC w [v] b) (hbl : b.length ≤ 1048576) (hM : MaxOk w) (hE : ErrsOk w) (hT : Pow10 w) {h1 : HeadN} {d1 r1 : List UInt8} (hk : blockOf b = (h1,d1,r1,0)) (ht : h1.typ = 120) {l : List Rec} (hp : paxOf (ofL d1) = (l,0)) {h2 : HeadN} {d2 r2 : List UInt8} {e3 : Int} (hk2 : blockOf r1 = (h2,d2,r2,e3)) (he : ¬ e3 = 0) :
 Calls Tryz.prog 19 #[v] w (RetEnt w (memOf b)):=by
 obtain ⟨a,cap,hv,hcp⟩:=bytes_form h
 subst hv
 have HBK:=Lib.hid (fun W (hb:Below w.heap.size w W)=>Block_any (.slice a b.length cap) b W (h.below (fun _ _ h=>h) hb) hbl)
 have HBZ:=Lib.hid ((Below.refl w.heap.size w).alloc (Nat.le_refl _) (.cells #[.string ⟨#[]⟩,.int .i64 0,.string ⟨#[]⟩,.int .i64 0,.int .i64 0,.int .i64 0,.string ⟨#[]⟩,.string ⟨#[]⟩,.int .i64 0,.int .i64 0,.slice none 0 0] 26))
 have HRZ:Hid ((w.alloc (.cells #[.string ⟨#[]⟩,.int .i64 0,.string ⟨#[]⟩,.int .i64 0,.int .i64 0,.int .i64 0,.string ⟨#[]⟩,.string ⟨#[]⟩,.int .i64 0,.int .i64 0,.slice none 0 0] 26)).heap[w.heap.size]?=some (.cells #[.string ⟨#[]⟩,.int .i64 0,.string ⟨#[]⟩,.int .i64 0,.int .i64 0,.int .i64 0,.string ⟨#[]⟩,.string ⟨#[]⟩,.int .i64 0,.int .i64 0,.slice none 0 0] 26 (0,0))):=Lib.hid (heap_alloc_new _ _)
 have hty:((h1.typ.toNat:Int)==120)=true:=by rw [ht];rfl
 have HF:=Lib.hid (memOf_bad3 hk ht hp hk2 he)
 have HK:=Lib.hid hk
 have HT:=Lib.hid hT
 rw [hk] at HBK
 have hq:(e3 != 0)=true:=by rw [bne_iff_ne];exact he
 clear h hk he hM hE hT ht
 go_enter Tryz.func19,Tryz.ntmps19
 go_wp2_with fail
 refine (HBK.out _ HBZ.out).mono ?_
 rintro e w1 ⟨v1,v2,rfl,ho1,ho2,hb⟩
 have HB1:=Lib.hid (HBZ.out.trans (hb.mono HBZ.out.size))
 have HR1:=Lib.hid ((hb.block _ (Array.getElem?_eq_some_iff.1 HRZ.out).1).trans HRZ.out)
 have hlr:=(Array.getElem?_eq_some_iff.1 HR1.out).1
 clear hb HRZ HBK HBZ
 obtain ⟨a1,c1,rfl,hp1⟩:=ho1.place
 obtain ⟨a2,c2,rfl,hp2⟩:=ho2.place
 have hl1:=blockOf_len HK.out rfl
 have HS1:=Lib.hid (ho1.slice (N:=maxLen) (Nat.le_trans (Nat.le_trans hl1.1 hbl) (by unfold maxLen;decide)))
 have HS2:=Lib.hid (ho2.slice (N:=maxLen) (Nat.le_trans (Nat.le_trans hl1.2 hbl) (by unfold maxLen;decide)))
 have HP1:=Lib.hid hp1
 have HP2:=Lib.hid hp2
 clear ho1 ho2 hp1 hp2
 go_upto_region 6 with fail
 have HA:=Lib.hid ((Below.refl w1.heap.size w1).alloc (Nat.le_refl _) (.cells #[.string h1.nm,.string h1.px,.string h1.lk,.int .i64 h1.mode,.int .i64 h1.uid,.int .i64 h1.gid,.int .i64 h1.size,.int .i64 h1.time,.int .u8 h1.typ.toNat,.string h1.user,.string h1.group] 62))
 have HB2:=Lib.hid (HB1.out.trans (HA.out.mono HB1.out.size))
 have HD2:Hid ((w1.alloc (.cells #[.string h1.nm,.string h1.px,.string h1.lk,.int .i64 h1.mode,.int .i64 h1.uid,.int .i64 h1.gid,.int .i64 h1.size,.int .i64 h1.time,.int .u8 h1.typ.toNat,.string h1.user,.string h1.group] 62)).heap[w1.heap.size]?=some (.cells #[.string h1.nm,.string h1.px,.string h1.lk,.int .i64 h1.mode,.int .i64 h1.uid,.int .i64 h1.gid,.int .i64 h1.size,.int .i64 h1.time,.int .u8 h1.typ.toNat,.string h1.user,.string h1.group] 62 (0,0))):=Lib.hid (heap_alloc_new _ _)
 have HR2:=Lib.hid ((HA.out.block _ hlr).trans HR1.out)
 have HS3:=Lib.hid (bytesBelow HS1.out HA.out)
 have HS4:=Lib.hid (bytesBelow HS2.out HA.out)
 have HP3:Hid (∀ p,a1=some p->w.heap.size<p.block/\p.block<w1.heap.size):=Lib.hid (fun p hp=>⟨by have:=(HP1.out p hp).1;simp at this;omega,(HP1.out p hp).2⟩)
 have hne:w.heap.size<w1.heap.size:=hlr
 generalize w1.heap.size=bh at *
 generalize w1.alloc (.cells #[.string h1.nm,.string h1.px,.string h1.lk,.int .i64 h1.mode,.int .i64 h1.uid,.int .i64 h1.gid,.int .i64 h1.size,.int .i64 h1.time,.int .u8 h1.typ.toNat,.string h1.user,.string h1.group] 62)=w2 at *
 clear HA HB1 HR1 HS1 HS2 HP1 HP2 hlr
 have hcv:=conv w2 HS3.out
 have HPX:=Lib.hid (PaxRead_any (ofL d1) w2 (by rw [ofL_size];exact Nat.le_trans hl1.1 hbl) (HT.out.below HB2.out))
 rw [hp] at HPX
 go_wp2_with fail
 refine HPX.out.mono ?_
 rintro e w3 ⟨v3,rfl,ho3,hb3⟩
 have HB3:=Lib.hid (HB2.out.trans (hb3.mono HB2.out.size))
 have HR3:=Lib.hid ((hb3.block _ (Array.getElem?_eq_some_iff.1 HR2.out).1).trans HR2.out)
 have HD3:=Lib.hid ((hb3.block _ (Array.getElem?_eq_some_iff.1 HD2.out).1).trans HD2.out)
 have HS5:=Lib.hid (bytesBelow HS4.out hb3)
 have hbh3:bh<w3.heap.size:=(Array.getElem?_eq_some_iff.1 HD3.out).1
 have HO3:=Lib.hid ho3
 have HZ3:Hid (bh<w2.heap.size):=Lib.hid (Array.getElem?_eq_some_iff.1 HD2.out).1
 clear hcv HPX hb3 ho3 HB2 HR2 HD2 HS3 HS4
 have HBK2:=Lib.hid (Block_any (.slice a2 r1.length c2) r1 w3 HS5.out (Nat.le_trans hl1.2 hbl))
 rw [hk2] at HBK2
 go_wp2_with fail
 refine HBK2.out.mono ?_
 rintro e w4 ⟨v5,v6,rfl,ho5,ho6,hb4⟩
 have HB4:=Lib.hid (HB3.out.trans (hb4.mono HB3.out.size))
 have HR4:=Lib.hid ((hb4.block _ (Array.getElem?_eq_some_iff.1 HR3.out).1).trans HR3.out)
 have HD4:=Lib.hid ((hb4.block _ (Array.getElem?_eq_some_iff.1 HD3.out).1).trans HD3.out)
 have HO4:=Lib.hid (HO3.out.below hb4)
 clear HBK2 hb4
 obtain ⟨r0,r1,r2,r3,r4,r5,r6,r7,r8,r9,r10⟩:=cells11 HR4.out
 obtain ⟨f0,f1,f2,f3,f4,f5,f6,f7,f8,f9,f10⟩:=froz11 HR4.out
 have hne1:w.heap.size≠bh:=Nat.ne_of_lt hne
 have hne2:bh≠w.heap.size:=(Nat.ne_of_lt hne).symm
 obtain ⟨k0,k1,k2,k3,k4,k5,k6,k7,k8,k9,k10⟩:=cells11 HD4.out
 obtain ⟨g0,g1,g2,g3,g4,g5,g6,g7,g8,g9,g10⟩:=froz11 HD4.out
 go_upto_region 11 with fail
 go_wp2
 (try simp only [Exit.inBlock,Exit.then])
 refine bodyPost_ret (v := .tuple #[.agg #[.string ⟨#[]⟩,.int .i64 0,.string ⟨#[]⟩,.int .i64 0,.int .i64 0,.int .i64 0,.string ⟨#[]⟩,.string ⟨#[]⟩,.int .i64 0,.int .i64 0,.slice none 0 0],.int .i64 0,.int .i64 e3]) (by rw [results_cell_t3 rfl];go_simp) rfl ?_
 rw [HF.out]
 exact ⟨entNone,rfl,entNone_out _ _,((((((((((((((((((((((HB4.out.setCell (p:=⟨bh,0,none⟩) (Nat.le_of_lt hne) (.string h2.nm)).setCell (p:=⟨bh,1,none⟩) (Nat.le_of_lt hne) (.string h2.px)).setCell (p:=⟨bh,2,none⟩) (Nat.le_of_lt hne) (.string h2.lk)).setCell (p:=⟨bh,3,none⟩) (Nat.le_of_lt hne) (.int .i64 h2.mode)).setCell (p:=⟨bh,4,none⟩) (Nat.le_of_lt hne) (.int .i64 h2.uid)).setCell (p:=⟨bh,5,none⟩) (Nat.le_of_lt hne) (.int .i64 h2.gid)).setCell (p:=⟨bh,6,none⟩) (Nat.le_of_lt hne) (.int .i64 h2.size)).setCell (p:=⟨bh,7,none⟩) (Nat.le_of_lt hne) (.int .i64 h2.time)).setCell (p:=⟨bh,8,none⟩) (Nat.le_of_lt hne) (.int .u8 h2.typ.toNat)).setCell (p:=⟨bh,9,none⟩) (Nat.le_of_lt hne) (.string h2.user)).setCell (p:=⟨bh,10,none⟩) (Nat.le_of_lt hne) (.string h2.group)).setCell (p:=⟨w.heap.size,0,none⟩) (Nat.le_refl _) (.string ⟨#[]⟩)).setCell (p:=⟨w.heap.size,1,none⟩) (Nat.le_refl _) (.int .i64 0)).setCell (p:=⟨w.heap.size,2,none⟩) (Nat.le_refl _) (.string ⟨#[]⟩)).setCell (p:=⟨w.heap.size,3,none⟩) (Nat.le_refl _) (.int .i64 0)).setCell (p:=⟨w.heap.size,4,none⟩) (Nat.le_refl _) (.int .i64 0)).setCell (p:=⟨w.heap.size,5,none⟩) (Nat.le_refl _) (.int .i64 0)).setCell (p:=⟨w.heap.size,6,none⟩) (Nat.le_refl _) (.string ⟨#[]⟩)).setCell (p:=⟨w.heap.size,7,none⟩) (Nat.le_refl _) (.string ⟨#[]⟩)).setCell (p:=⟨w.heap.size,8,none⟩) (Nat.le_refl _) (.int .i64 0)).setCell (p:=⟨w.heap.size,9,none⟩) (Nat.le_refl _) (.int .i64 0)).setCell (p:=⟨w.heap.size,10,none⟩) (Nat.le_refl _) (.slice none 0 0))⟩
set_option maxRecDepth 100000 in
set_option maxHeartbeats 1000000 in
theorem MemRd_good (v : Value) (b : List UInt8) (w : World) (h : SliceC maxLen 1 ByteC w [v] b) (hbl : b.length ≤ 1048576) (hM : MaxOk w) (hE : ErrsOk w) (hT : Pow10 w) {h1 : HeadN} {d1 r1 : List UInt8} (hk : blockOf b = (h1,d1,r1,0)) (hgo : h1.typ = 120 → ∃ l h2 d2 r2,paxOf (ofL d1) = (l,0) ∧ blockOf r1 = (h2,d2,r2,0)) :
 Calls Tryz.prog 19 #[v] w (RetEnt w (memOf b)):=by
 obtain ⟨a,cap,hv,hcp⟩:=bytes_form h
 subst hv
 have HBK:=Lib.hid (fun W (hb:Below w.heap.size w W)=>Block_any (.slice a b.length cap) b W (h.below (fun _ _ h=>h) hb) hbl)
 have HBZ:=Lib.hid ((Below.refl w.heap.size w).alloc (Nat.le_refl _) (.cells #[.string ⟨#[]⟩,.int .i64 0,.string ⟨#[]⟩,.int .i64 0,.int .i64 0,.int .i64 0,.string ⟨#[]⟩,.string ⟨#[]⟩,.int .i64 0,.int .i64 0,.slice none 0 0] 26))
 have HRZ:Hid ((w.alloc (.cells #[.string ⟨#[]⟩,.int .i64 0,.string ⟨#[]⟩,.int .i64 0,.int .i64 0,.int .i64 0,.string ⟨#[]⟩,.string ⟨#[]⟩,.int .i64 0,.int .i64 0,.slice none 0 0] 26)).heap[w.heap.size]?=some (.cells #[.string ⟨#[]⟩,.int .i64 0,.string ⟨#[]⟩,.int .i64 0,.int .i64 0,.int .i64 0,.string ⟨#[]⟩,.string ⟨#[]⟩,.int .i64 0,.int .i64 0,.slice none 0 0] 26 (0,0))):=Lib.hid (heap_alloc_new _ _)
 have HTK:=Lib.hid (fun W n (hb:Below w.heap.size w W) (hn:n<=b.length)=>conv W (bytesBelow (bytes_take (i:=n) h hn) hb))
 have HK:=Lib.hid hk
 have HT:=Lib.hid hT
 have HE:=Lib.hid hE
 have HM:=Lib.hid hM
 have HGO:=Lib.hid hgo
 rw [hk] at HBK
 clear h hk hM hE hT hgo
 go_enter Tryz.func19,Tryz.ntmps19
 go_wp2_with fail
 refine (HBK.out _ HBZ.out).mono ?_
 rintro e w1 ⟨v1,v2,rfl,ho1,ho2,hb⟩
 have HB1:=Lib.hid (HBZ.out.trans (hb.mono HBZ.out.size))
 have HR1:=Lib.hid ((hb.block _ (Array.getElem?_eq_some_iff.1 HRZ.out).1).trans HRZ.out)
 have hlr:=(Array.getElem?_eq_some_iff.1 HR1.out).1
 clear hb HRZ HBK HBZ
 obtain ⟨a1,c1,rfl,hp1⟩:=ho1.place
 obtain ⟨a2,c2,rfl,hp2⟩:=ho2.place
 have hl1:=blockOf_len HK.out rfl
 have HS1:=Lib.hid (ho1.slice (N:=maxLen) (Nat.le_trans (Nat.le_trans hl1.1 hbl) (by unfold maxLen;decide)))
 have HS2:=Lib.hid (ho2.slice (N:=maxLen) (Nat.le_trans (Nat.le_trans hl1.2 hbl) (by unfold maxLen;decide)))
 have HP1:=Lib.hid hp1
 have HP2:=Lib.hid hp2
 clear ho1 ho2 hp1 hp2
 go_upto_region 5 with fail
 have HA:=Lib.hid ((Below.refl w1.heap.size w1).alloc (Nat.le_refl _) (.cells #[.string h1.nm,.string h1.px,.string h1.lk,.int .i64 h1.mode,.int .i64 h1.uid,.int .i64 h1.gid,.int .i64 h1.size,.int .i64 h1.time,.int .u8 h1.typ.toNat,.string h1.user,.string h1.group] 62))
 have HB2:=Lib.hid (HB1.out.trans (HA.out.mono HB1.out.size))
 have HD2:Hid ((w1.alloc (.cells #[.string h1.nm,.string h1.px,.string h1.lk,.int .i64 h1.mode,.int .i64 h1.uid,.int .i64 h1.gid,.int .i64 h1.size,.int .i64 h1.time,.int .u8 h1.typ.toNat,.string h1.user,.string h1.group] 62)).heap[w1.heap.size]?=some (.cells #[.string h1.nm,.string h1.px,.string h1.lk,.int .i64 h1.mode,.int .i64 h1.uid,.int .i64 h1.gid,.int .i64 h1.size,.int .i64 h1.time,.int .u8 h1.typ.toNat,.string h1.user,.string h1.group] 62 (0,0))):=Lib.hid (heap_alloc_new _ _)
 have HR2:=Lib.hid ((HA.out.block _ hlr).trans HR1.out)
 have HS3:=Lib.hid (bytesBelow HS1.out HA.out)
 have HS4:=Lib.hid (bytesBelow HS2.out HA.out)
 have HP3:Hid (∀ p,a1=some p->w.heap.size<p.block/\p.block<w1.heap.size):=Lib.hid (fun p hp=>⟨by have:=(HP1.out p hp).1;simp at this;omega,(HP1.out p hp).2⟩)
 have hne:w.heap.size<w1.heap.size:=hlr
 generalize w1.heap.size=bh at *
 generalize w1.alloc (.cells #[.string h1.nm,.string h1.px,.string h1.lk,.int .i64 h1.mode,.int .i64 h1.uid,.int .i64 h1.gid,.int .i64 h1.size,.int .i64 h1.time,.int .u8 h1.typ.toNat,.string h1.user,.string h1.group] 62)=w2 at *
 clear HA HB1 HR1 HS1 HS2 HP1 HP2 hlr
 have k8:w2.cell? ⟨bh,8,none⟩=some (.int .u8 h1.typ.toNat):=cellAt HD2.out rfl
 obtain ⟨q,hq⟩:∃ q,((h1.typ.toNat:Int)==120)=q:=⟨_,rfl⟩
 go_cut [27] from 25 to 27 (fun u wy=>u = .bool q/\wy=w2)
 case first =>
  go_wp2
  go_meet
  exact ⟨rfl,rfl⟩
 case rest =>
 obtain ⟨rfl,rfl⟩:=hcut
 obtain ⟨w2,rfl⟩:∃ W:World,W=wc:=⟨_,rfl⟩
 go_step
 go_cut [6,7,8,9,27] from 28 to 48 (fun u6 u7 _ u9 u27 wy=>∃ (h2:HeadN) (l2:List Rec) (a6:Option Addr) (c6:Nat) (d2:List UInt8) (a7:Option Addr) (n7 c7:Nat),u6 = .slice a6 d2.length c6/\u7 = .slice a7 n7 c7/\u27 = .bool q/\Hid (memOf b=memEnd b (b.length-n7) h2 l2 d2/\n7<=b.length/\h2.Ok maxLen/\(∀ r∈l2,r.key.size<=1048576/\r.value.size<=1048576))/\Hid (SliceC maxLen 2 (RecC maxLen) wy [u9] l2)/\Hid (SliceC maxLen 1 ByteC wy [.slice a6 d2.length c6] d2)/\Hid (∀ p,a6=some p->w.heap.size<p.block)/\Hid (wy.heap[bh]?=some (.cells #[.string h2.nm,.string h2.px,.string h2.lk,.int .i64 h2.mode,.int .i64 h2.uid,.int .i64 h2.gid,.int .i64 h2.size,.int .i64 h2.time,.int .u8 h2.typ.toNat,.string h2.user,.string h2.group] 62 (0,0)))/\Hid (wy.heap[w.heap.size]?=some (.cells #[.string ⟨#[]⟩,.int .i64 0,.string ⟨#[]⟩,.int .i64 0,.int .i64 0,.int .i64 0,.string ⟨#[]⟩,.string ⟨#[]⟩,.int .i64 0,.int .i64 0,.slice none 0 0] 26 (0,0)))/\Hid (Below w.heap.size w wy))
 case first =>
  cases q with
  | true =>
    have ht:h1.typ=120:=UInt8.toNat_inj.1 (by have h2:(120:UInt8).toNat=120:=rfl;have h3:=eq_of_beq hq;rw [h2];exact_mod_cast h3)
    obtain ⟨l,h2,d2,r2,hp,hk2⟩:=HGO.out ht
    have HTY:=Lib.hid ht
    clear ht
    have hcv:=conv w2 HS3.out
    have HPX:=Lib.hid (PaxRead_any (ofL d1) w2 (by rw [ofL_size];exact Nat.le_trans hl1.1 hbl) (HT.out.below HB2.out))
    rw [hp] at HPX
    go_wp2_with fail
    refine HPX.out.mono ?_
    rintro e w3 ⟨v3,rfl,ho3,hb3⟩
    have HB3:=Lib.hid (HB2.out.trans (hb3.mono HB2.out.size))
    have HR3:=Lib.hid ((hb3.block _ (Array.getElem?_eq_some_iff.1 HR2.out).1).trans HR2.out)
    have HD3:=Lib.hid ((hb3.block _ (Array.getElem?_eq_some_iff.1 HD2.out).1).trans HD2.out)
    have HS5:=Lib.hid (bytesBelow HS4.out hb3)
    have hbh3:bh<w3.heap.size:=(Array.getElem?_eq_some_iff.1 HD3.out).1
    have HO3:=Lib.hid ho3
    have HZ3:Hid (bh<w2.heap.size):=Lib.hid (Array.getElem?_eq_some_iff.1 HD2.out).1
    clear hcv HPX hb3 ho3 HB2 HR2 HD2 HS3 HS4
    have HBK2:=Lib.hid (Block_any (.slice a2 r1.length c2) r1 w3 HS5.out (Nat.le_trans hl1.2 hbl))
    rw [hk2] at HBK2
    go_wp2_with fail
    refine HBK2.out.mono ?_
    rintro e w4 ⟨v5,v6,rfl,ho5,ho6,hb4⟩
    have HB4:=Lib.hid (HB3.out.trans (hb4.mono HB3.out.size))
    have HR4:=Lib.hid ((hb4.block _ (Array.getElem?_eq_some_iff.1 HR3.out).1).trans HR3.out)
    have HD4:=Lib.hid ((hb4.block _ (Array.getElem?_eq_some_iff.1 HD3.out).1).trans HD3.out)
    have HO4:=Lib.hid (HO3.out.below hb4)
    have HLS:=Lib.hid (fun (r:Rec) (hr:r∈l)=>show r.key.size<=1048576/\r.value.size<=1048576 from by
     have h3:=paxOf_rec (s:=ofL d1) (by rw [hp]) r (by rw [hp];exact hr)
     omega)
    have HLS2:=Lib.hid (fun r (hr:r∈l)=>show r.key.size<=maxLen/\r.value.size<=maxLen from by
     have h3:=HLS.out r hr
     unfold maxLen;omega)
    have HLL:Hid (l.length<=maxLen):=Lib.hid (by have h4:=paxOf_len (s:=ofL d1) (by rw [hp]);rw [hp] at h4;unfold maxLen;simp only at h4;omega)
    have hg:=grown_row bh [.string h2.nm,.string h2.px,.string h2.lk,.int .i64 h2.mode,.int .i64 h2.uid,.int .i64 h2.gid,.int .i64 h2.size,.int .i64 h2.time,.int .u8 h2.typ.toNat,.string h2.user,.string h2.group] w4 0
    have ho5':OwnBs 5 (setRow w4 bh [.string h2.nm,.string h2.px,.string h2.lk,.int .i64 h2.mode,.int .i64 h2.uid,.int .i64 h2.gid,.int .i64 h2.size,.int .i64 h2.time,.int .u8 h2.typ.toNat,.string h2.user,.string h2.group] 0) w3.heap.size v5 d2:=ho5.kept hg (.inr (fun e=>by have:=(World.ownsRow.lt ho5 bh e).1;omega))
    have ho4':OwnRecs 85 (setRow w4 bh [.string h2.nm,.string h2.px,.string h2.lk,.int .i64 h2.mode,.int .i64 h2.uid,.int .i64 h2.gid,.int .i64 h2.size,.int .i64 h2.time,.int .u8 h2.typ.toNat,.string h2.user,.string h2.group] 0) w2.heap.size v3 l:=HO4.out.kept hg (.inr (fun e=>by have:=(World.ownsRow.lt HO4.out bh e).1;have:=HZ3.out;omega))
    obtain ⟨a5,c5,rfl,hp5⟩:=ho5.place
    obtain ⟨a6,c6,rfl,hp6⟩:=ho6.place
    have HRW:(setRow w4 bh [.string h2.nm,.string h2.px,.string h2.lk,.int .i64 h2.mode,.int .i64 h2.uid,.int .i64 h2.gid,.int .i64 h2.size,.int .i64 h2.time,.int .u8 h2.typ.toNat,.string h2.user,.string h2.group] 0).heap[bh]?=some (.cells #[.string h2.nm,.string h2.px,.string h2.lk,.int .i64 h2.mode,.int .i64 h2.uid,.int .i64 h2.gid,.int .i64 h2.size,.int .i64 h2.time,.int .u8 h2.typ.toNat,.string h2.user,.string h2.group] 62 (0,0)):=setRow_all HD4.out rfl
    have HRZ2:(setRow w4 bh [.string h2.nm,.string h2.px,.string h2.lk,.int .i64 h2.mode,.int .i64 h2.uid,.int .i64 h2.gid,.int .i64 h2.size,.int .i64 h2.time,.int .u8 h2.typ.toNat,.string h2.user,.string h2.group] 0).heap[w.heap.size]?=some (.cells #[.string ⟨#[]⟩,.int .i64 0,.string ⟨#[]⟩,.int .i64 0,.int .i64 0,.int .i64 0,.string ⟨#[]⟩,.string ⟨#[]⟩,.int .i64 0,.int .i64 0,.slice none 0 0] 26 (0,0)):=(hg.block _ (Nat.lt_of_lt_of_le hne (Nat.le_trans (Nat.le_of_lt hbh3) hb4.size)) (by simp;omega)).trans HR4.out
    have HBB:=Below.setRow (b:=bh) (Nat.le_of_lt hne) [.string h2.nm,.string h2.px,.string h2.lk,.int .i64 h2.mode,.int .i64 h2.uid,.int .i64 h2.gid,.int .i64 h2.size,.int .i64 h2.time,.int .u8 h2.typ.toNat,.string h2.user,.string h2.group] w w4 0 HB4.out
    have HRS:=ho4'.slice HLL.out HLS2.out
    have HDS:=ho5'.slice (N:=maxLen) (Nat.le_trans (Nat.le_trans (blockOf_len hk2 rfl).1 (Nat.le_trans hl1.2 hbl)) (by unfold maxLen;decide))
    have HDP:∀ p,a5=some p->w.heap.size<p.block:=fun p hp=>by have:=(hp5 p hp).1;omega
    clear hg ho5 ho6 ho5' ho4' hp5 hp6 HBK2 hb4
    have hne1:w.heap.size≠bh:=Nat.ne_of_lt hne
    have hne2:bh≠w.heap.size:=(Nat.ne_of_lt hne).symm
    obtain ⟨k0,k1,k2,k3,k4,k5,k6,k7,k8,k9,k10⟩:=cells11 HD4.out
    obtain ⟨g0,g1,g2,g3,g4,g5,g6,g7,g8,g9,g10⟩:=froz11 HD4.out
    go_wp2_with fail
    go_meet
    case rel=>exact ⟨h2,l,_,_,d2,_,r2.length,_,rfl,rfl,rfl,Lib.hid ⟨memOf_pax HK.out HTY.out hp hk2,Nat.le_trans (blockOf_len hk2 rfl).2 hl1.2,by have:=blockHead_ok r1;rw [hk2] at this;exact this,HLS.out⟩,Lib.hid HRS,Lib.hid HDS,Lib.hid HDP,Lib.hid HRW,Lib.hid HRZ2,Lib.hid HBB⟩
  | false =>
    have ht:¬ h1.typ=120:=fun e=>by rw [e] at hq;cases hq
    have HTY:=Lib.hid ht
    clear ht
    go_wp2_with fail
    go_meet
    case rel=>exact ⟨h1,[],a1,c1,d1,a2,r1.length,c2,rfl,rfl,rfl,Lib.hid ⟨memOf_plain HK.out HTY.out,hl1.2,by have:=blockHead_ok b;rw [HK.out] at this;exact this,fun r hr=>by simp at hr⟩,Lib.hid ⟨none,0,rfl,by simp,by simp,by simp,fun _=>rfl,fun h=>absurd h (by simp)⟩,HS3,Lib.hid (fun p hp=>(HP3.out p hp).1),HD2,HR2,HB2⟩
 case rest =>
 obtain ⟨h2,l2,a6,c6,d2,a7,n7,c7,rfl,rfl,rfl,HMO,HLR,HDA,HDP,HD5,HR5,HB5⟩:=hcut
 obtain ⟨w5,rfl⟩:∃ W:World,W=wc:=⟨_,rfl⟩
 obtain ⟨hmo,hn7,hok,hls⟩:=HMO.out
 have HUN:=Lib.hid (Unpack_any h2 u9 l2 a6 d2.length c6 d2 w5 hok HLR.out hls rfl (HE.out.below HB5.out) (HT.out.below HB5.out))
 obtain ⟨x,hx⟩:∃ x,x=unpackOf h2 l2 a6 c6 d2:=⟨_,rfl⟩
 have HXB:=Lib.hid (show x.bare=(unpackOf h2 l2 none 0 d2).bare by rw [hx];exact unpack_bare _ _ _ _ _)
 have HXM:=Lib.hid (show memBytes x=memBytes (unpackOf h2 l2 none 0 d2) by rw [hx];exact memBytes_place _ _ _ _ _ _ _)
 have HXO:=Lib.hid (fun W (hd:SliceC maxLen 1 ByteC W [.slice a6 d2.length c6] d2)=>show x.Ok maxLen W from by rw [hx];exact unpack_ok hok (fun r hr=>by have:=hls r hr;unfold maxLen;omega) hd)
 have hxa:x.da=a6:=by rw [hx];rfl
 have HXA:=Lib.hid hxa
 rw [<-hx] at HUN
 clear hx hls HMO hok hxa
 have HMO:=Lib.hid hmo
 have hn7b:n7<=1048576:=Nat.le_trans hn7 hbl
 clear hmo HS3 HS4 HD2 HR2 HB2 HP3 HGO HK k8
 obtain ⟨c0,c1,c2,c3,c4,c5,c6,c7,c8,c9,c10⟩:=cells11 HD5.out
 go_wp2_with fail
 refine HUN.out.mono ?_
 rintro e w6 ⟨rfl,hb6⟩
 have HB6:=Lib.hid (HB5.out.trans (hb6.mono HB5.out.size))
 have HR6:=Lib.hid ((hb6.block _ (Array.getElem?_eq_some_iff.1 HR5.out).1).trans HR5.out)
 have HD6:=Lib.hid (bytesBelow HDA.out hb6)
 have hlr6:=(Array.getElem?_eq_some_iff.1 HR6.out).1
 clear hb6 HUN HLR HDA HD5 HR5 HB5 c0 c1 c2 c3 c4 c5 c6 c7 c8 c9 c10
 go_upto_region 14 with fail
 have HA:=Lib.hid ((Below.refl w6.heap.size w6).alloc (Nat.le_refl _) (.cells #[.string x.path,.int .i64 x.kind,.string x.target,.int .i64 x.mt.mode,.int .i64 x.mt.uid,.int .i64 x.mt.gid,.string x.mt.user,.string x.mt.group,.int .i64 x.mt.second,.int .i64 x.mt.nano,.slice x.da x.data.length x.dcap] 26))
 have HB7:=Lib.hid (HB6.out.trans (HA.out.mono HB6.out.size))
 have HX7:Hid ((w6.alloc (.cells #[.string x.path,.int .i64 x.kind,.string x.target,.int .i64 x.mt.mode,.int .i64 x.mt.uid,.int .i64 x.mt.gid,.string x.mt.user,.string x.mt.group,.int .i64 x.mt.second,.int .i64 x.mt.nano,.slice x.da x.data.length x.dcap] 26)).heap[w6.heap.size]?=some (.cells #[.string x.path,.int .i64 x.kind,.string x.target,.int .i64 x.mt.mode,.int .i64 x.mt.uid,.int .i64 x.mt.gid,.string x.mt.user,.string x.mt.group,.int .i64 x.mt.second,.int .i64 x.mt.nano,.slice x.da x.data.length x.dcap] 26 (0,0))):=Lib.hid (heap_alloc_new _ _)
 have HR7:=Lib.hid ((HA.out.block _ hlr6).trans HR6.out)
 have HD7:=Lib.hid (bytesBelow HD6.out HA.out)
 have hbx:w.heap.size<w6.heap.size:=hlr6
 generalize w6.heap.size=bx at *
 generalize w6.alloc (.cells #[.string x.path,.int .i64 x.kind,.string x.target,.int .i64 x.mt.mode,.int .i64 x.mt.uid,.int .i64 x.mt.gid,.string x.mt.user,.string x.mt.group,.int .i64 x.mt.second,.int .i64 x.mt.nano,.slice x.da x.data.length x.dcap] 26)=w7 at *
 clear HA HB6 HR6 HD6 hlr6
 obtain ⟨c0,c1,c2,c3,c4,c5,c6,c7,c8,c9,c10⟩:=cells11 HX7.out
 have HMW:=Lib.hid (MemW_any x w7 (HM.out.below HB7.out) (HXO.out w7 HD7.out) (HT.out.below HB7.out))
 have HML:=Lib.hid (memBytes_small x)
 have HQ:Hid (memBytes (unpackOf h2 l2 none 0 d2)=memBytes x):=Lib.hid HXM.out.symm
 clear HXM
 generalize memBytes x=mb at *
 obtain ⟨m,em⟩:=mb
 simp only at HMW HML
 go_wp2_with fail
 refine HMW.out.mono ?_
 rintro e w8 ⟨v8,rfl,ho8,hb8⟩
 have HB8:=Lib.hid (HB7.out.trans (hb8.mono HB7.out.size))
 have HR8:=Lib.hid ((hb8.block _ (Array.getElem?_eq_some_iff.1 HR7.out).1).trans HR7.out)
 have HX8:=Lib.hid ((hb8.block _ (Array.getElem?_eq_some_iff.1 HX7.out).1).trans HX7.out)
 have HD8:=Lib.hid (bytesBelow HD7.out hb8)
 have hbd:∀ n,Below w8.heap.size w8 (w8.drewN n):=fun n=>⟨rfl,rfl,rfl,Nat.le_refl _,fun _ _=>rfl⟩
 have hcm:=fun n=>conv (w8.drewN n) (bytesBelow (ho8.slice (N:=maxLen) (Nat.le_trans HML.out (by unfold maxLen;decide))) (hbd n))
 have hsub:((b.length:Int)-(n7:Int))=((b.length-n7:Nat):Int):=by omega
 have hct:=fun n=>HTK.out (w8.drewN n) (b.length-n7) (HB8.out.trans ((hbd n).mono HB8.out.size)) (Nat.sub_le _ _)
 have HBD:=Lib.hid hbd
 have hsl:∀ n,(Instr.slice 24 (.slice a b.length cap) none (some (.int .i64 ((b.length-n7:Nat):Int))) none).run Tryz.prog (w8.drewN n) = .ok (.slice a (b.length-n7) cap) (w8.drewN n):=fun n=>run_takeB (w8.drewN n) a b.length cap (b.length-n7) (Nat.sub_le _ _) hcp
 clear hbd hb8 HMW ho8 HX7 HR7 HB7 HD7 c0 c1 c2 c3 c4 c5 c6 c7 c8 c9 c10
 obtain ⟨nn,hnn⟩:∃ nn,nn=b.length-n7:=⟨_,rfl⟩
 rw [<-hnn] at hsub hct hsl HMO
 have hnle:nn<=1048576:=by omega
 clear hnn
 obtain ⟨r0,r1,r2,r3,r4,r5,r6,r7,r8,r9,r10⟩:=cells11 HR8.out
 obtain ⟨f0,f1,f2,f3,f4,f5,f6,f7,f8,f9,f10⟩:=froz11 HR8.out
 obtain ⟨c0,c1,c2,c3,c4,c5,c6,c7,c8,c9,c10⟩:=cells11 HX8.out
 by_cases hem:em=0
 ·have hq:(em != 0)=false:=by rw [hem];rfl
  by_cases hmt:m=b.take nn
  ·have hne':=ne_t hmt
   have HF:=Lib.hid (HMO.out.trans (memEnd_ok HQ.out hmt hem))
   clear hem hmt HMO HQ
   go_upto_region 15 with fail
   go_quiet (fail)
   have hnb:bx≠w.heap.size:=(Nat.ne_of_lt hbx).symm
   have hnb2:w.heap.size≠bx:=Nat.ne_of_lt hbx
   go_wp2
   (try simp only [Exit.inBlock,Exit.then])
   refine bodyPost_ret (v := .tuple #[x.val,.int .i64 nn,.int .i64 0]) (by rw [results_cell_t3 rfl];go_simp) rfl ?_
   rw [HF.out]
   have hg:=fun n=>grown_row w.heap.size [.string x.path,.int .i64 x.kind,.string x.target,.int .i64 x.mt.mode,.int .i64 x.mt.uid,.int .i64 x.mt.gid,.string x.mt.user,.string x.mt.group,.int .i64 x.mt.second,.int .i64 x.mt.nano,.slice x.da x.data.length x.dcap] (w8.drewN n) 0
   exact ⟨x,rfl,⟨HXB.out,HXO.out _ (bytesC_grown (bytesBelow HD8.out (HBD.out _)) (hg _) (fun p _ hp e=>by have:=HDP.out p hp;simp at e;omega)),fun p hp=>Nat.le_of_lt (HDP.out p (by rw [<-HXA.out];exact hp))⟩,Below.setRow (b:=w.heap.size) (Nat.le_refl _) [.string x.path,.int .i64 x.kind,.string x.target,.int .i64 x.mt.mode,.int .i64 x.mt.uid,.int .i64 x.mt.gid,.string x.mt.user,.string x.mt.group,.int .i64 x.mt.second,.int .i64 x.mt.nano,.slice x.da x.data.length x.dcap] w _ 0 (HB8.out.trans ((HBD.out _).mono HB8.out.size))⟩
  ·have hne':=ne_f hmt
   have HF:=Lib.hid (HMO.out.trans (memEnd_bad HQ.out (fun h=>hmt h.1)))
   clear hem hmt HMO HQ
   go_upto_region 15 with fail
   go_quiet (fail)
   go_wp2
   (try simp only [Exit.inBlock,Exit.then])
   refine bodyPost_ret (v := .tuple #[.agg #[.string ⟨#[]⟩,.int .i64 0,.string ⟨#[]⟩,.int .i64 0,.int .i64 0,.int .i64 0,.string ⟨#[]⟩,.string ⟨#[]⟩,.int .i64 0,.int .i64 0,.slice none 0 0],.int .i64 0,.int .i64 3]) (by rw [results_cell_t3 rfl];go_simp) rfl ?_
   rw [HF.out]
   exact ⟨entNone,rfl,entNone_out _ _,Below.setRow (b:=w.heap.size) (Nat.le_refl _) [.string ⟨#[]⟩,.int .i64 0,.string ⟨#[]⟩,.int .i64 0,.int .i64 0,.int .i64 0,.string ⟨#[]⟩,.string ⟨#[]⟩,.int .i64 0,.int .i64 0,.slice none 0 0] w _ 0 (HB8.out.trans ((HBD.out _).mono HB8.out.size))⟩
 ·have hq:(em != 0)=true:=by rw [bne_iff_ne];exact hem
  have HF:=Lib.hid (HMO.out.trans (memEnd_bad HQ.out (fun h=>hem h.2)))
  clear hem HMO HQ
  go_upto_region 15 with fail
  go_quiet (fail)
  go_wp2
  (try simp only [Exit.inBlock,Exit.then])
  refine bodyPost_ret (v := .tuple #[.agg #[.string ⟨#[]⟩,.int .i64 0,.string ⟨#[]⟩,.int .i64 0,.int .i64 0,.int .i64 0,.string ⟨#[]⟩,.string ⟨#[]⟩,.int .i64 0,.int .i64 0,.slice none 0 0],.int .i64 0,.int .i64 3]) (by rw [results_cell_t3 rfl];go_simp) rfl ?_
  rw [HF.out]
  exact ⟨entNone,rfl,entNone_out _ _,Below.setRow (b:=w.heap.size) (Nat.le_refl _) [.string ⟨#[]⟩,.int .i64 0,.string ⟨#[]⟩,.int .i64 0,.int .i64 0,.int .i64 0,.string ⟨#[]⟩,.string ⟨#[]⟩,.int .i64 0,.int .i64 0,.slice none 0 0] w _ 0 (HB8.out.trans ((HBD.out _).mono HB8.out.size))⟩
theorem MemRd_any (v : Value) (b : List UInt8) (w : World) (h : SliceC maxLen 1 ByteC w [v] b) (hbl : b.length ≤ 1048576) (hM : MaxOk w) (hE : ErrsOk w) (hT : Pow10 w) :
 Calls Tryz.prog 19 #[v] w (RetEnt w (memOf b)):=by
 obtain ⟨⟨h1,d1,r1,e1⟩,hk⟩:∃ q,blockOf b=q:=⟨_,rfl⟩
 by_cases he:e1=0
 ·subst he
  by_cases ht:h1.typ=120
  ·obtain ⟨⟨l,e2⟩,hp⟩:∃ q,paxOf (ofL d1)=q:=⟨_,rfl⟩
   by_cases he2:e2=0
   ·subst he2
    obtain ⟨⟨h2,d2,r2,e3⟩,hk2⟩:∃ q,blockOf r1=q:=⟨_,rfl⟩
    by_cases he3:e3=0
    ·subst he3
     exact MemRd_good v b w h hbl hM hE hT hk (fun _=>⟨l,h2,d2,r2,hp,hk2⟩)
    ·exact MemRd_bad3 v b w h hbl hM hE hT hk ht hp hk2 he3
   ·exact MemRd_bad2 v b w h hbl hM hE hT hk ht hp he2
  ·exact MemRd_good v b w h hbl hM hE hT hk (fun e=>absurd e ht)
 ·exact MemRd_bad1 v b w h hbl hM hE hT hk he
end Go.Proofs.YtaffgndickdbiaaGreatDoor
