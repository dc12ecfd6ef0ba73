/-
  Texts: First.
-/
import Derived.Test.YtaffgndickdbiaaGreatDoorQ27
import Derived.Test.YtaffgndickdbiaaGreatDoorQ28
set_option linter.unusedVariables false
set_option linter.unusedSimpArgs false
set_option linter.unusedSectionVars false
namespace Go.Creel
open Go.RowKit
def RetFst (t : TypeId) (vh : HeadN → Value) (w : World) (p : HeadN × List UInt8 × Int × Int) (e : Ending) (w' : World) : Prop :=
 ∃ v,e = .returned (.tuple #[vh p.1,v,.int .i64 p.2.2.1,.int .i64 p.2.2.2])/\OwnBs t w' w.heap.size v p.2.1/\Below w.heap.size w w'
theorem firstOf_bad {b : List UInt8} {h : HeadN} {d r : List UInt8} {e : Int} (hb : blockOf b = (h,d,r,e)) (he : ¬ e = 0) : firstOf b = (headNone,[],0,e) := by unfold firstOf; rw [hb]; simp only; rw [if_neg he]
theorem firstOf_ok {b : List UInt8} {h : HeadN} {d r : List UInt8} (hb : blockOf b = (h,d,r,0)) : firstOf b = (h,d,((512 + (padFill d).length : Nat) : Int),0) := by unfold firstOf; rw [hb]; simp only; rw [if_pos trivial]
end Go.Creel
namespace Go.Proofs.YtaffgndickdbiaaGreatDoor
open Go.Creel Go.RowKit
set_option maxRecDepth 100000 in
set_option maxHeartbeats 400000 in
theorem First_short (v : Value) (b : List UInt8) (w : World) (h : SliceC maxLen 1 ByteC w [v] b) (hs : b.length < 512) :
 Calls Tryz.prog 54 #[v] w (RetFst 5 HeadN.val' w (firstOf b)):=by
 obtain ⟨a,cap,hv,_⟩:=bytes_form h
 subst hv
 have HF:=Lib.hid (firstOf_bad (blockOf_short hs) (by decide))
 have HBZ:=Lib.hid ((Below.refl w.heap.size w).alloc (Nat.le_refl _) (.cells #[.string ⟨#[]⟩,.string ⟨#[]⟩,.string ⟨#[]⟩,.int .i64 0,.int .i64 0,.int .i64 0,.int .i64 0,.int .i64 0,.int .u8 0,.string ⟨#[]⟩,.string ⟨#[]⟩] 62))
 clear h
 go_enter Tryz.func54,Tryz.ntmps54
 go_wp2
 (try simp only [Exit.inBlock,Exit.then])
 refine bodyPost_ret (v := .tuple #[.agg #[.string ⟨#[]⟩,.string ⟨#[]⟩,.string ⟨#[]⟩,.int .i64 0,.int .i64 0,.int .i64 0,.int .i64 0,.int .i64 0,.int .u8 0,.string ⟨#[]⟩,.string ⟨#[]⟩],.slice none 0 0,.int .i64 0,.int .i64 7]) (by rw [results_cell_tmp4 rfl];go_simp) rfl ?_
 rw [HF.out]
 exact ⟨_,rfl,OwnBs.nil _ _ _,HBZ.out⟩
set_option maxRecDepth 100000 in
set_option maxHeartbeats 400000 in
theorem First_head (v : Value) (b : List UInt8) (w : World) (h : SliceC maxLen 1 ByteC w [v] b) (hs : ¬ b.length < 512) (hh : ¬ (head512 b).2 = 0) :
 Calls Tryz.prog 54 #[v] w (RetFst 5 HeadN.val' w (firstOf b)):=by
 obtain ⟨a,cap,hv,hcp⟩:=bytes_form h
 subst hv
 have hcm:cap<=maxLen:=by obtain ⟨_,_,hv,_,h2,_⟩:=h;simp only [List.cons.injEq,Value.slice.injEq,and_true] at hv;omega
 have hsl:∀ W:World,(Instr.slice 24 (.slice a b.length cap) none (some (.int .i64 512)) none).run Tryz.prog W = .ok (.slice a 512 cap) W:=fun W=>run_takeB W a b.length cap 512 (by omega) hcp
 have H:=Lib.hid h
 have hTK:=bytes_take (i:=512) h (by omega)
 have HBZ:=Lib.hid ((Below.refl w.heap.size w).alloc (Nat.le_refl _) (.cells #[.string ⟨#[]⟩,.string ⟨#[]⟩,.string ⟨#[]⟩,.int .i64 0,.int .i64 0,.int .i64 0,.int .i64 0,.int .i64 0,.int .u8 0,.string ⟨#[]⟩,.string ⟨#[]⟩] 62))
 have HRZ:Hid ((w.alloc (.cells #[.string ⟨#[]⟩,.string ⟨#[]⟩,.string ⟨#[]⟩,.int .i64 0,.int .i64 0,.int .i64 0,.int .i64 0,.int .i64 0,.int .u8 0,.string ⟨#[]⟩,.string ⟨#[]⟩] 62)).heap[w.heap.size]?=some (.cells #[.string ⟨#[]⟩,.string ⟨#[]⟩,.string ⟨#[]⟩,.int .i64 0,.int .i64 0,.int .i64 0,.int .i64 0,.int .i64 0,.int .u8 0,.string ⟨#[]⟩,.string ⟨#[]⟩] 62 (0,0))):=Lib.hid (heap_alloc_new _ _)
 have hlen:(b.take 512).length=512:=by rw [List.length_take];omega
 have hTK2:SliceC maxLen 1 ByteC (w.alloc (.cells #[.string ⟨#[]⟩,.string ⟨#[]⟩,.string ⟨#[]⟩,.int .i64 0,.int .i64 0,.int .i64 0,.int .i64 0,.int .i64 0,.int .u8 0,.string ⟨#[]⟩,.string ⟨#[]⟩] 62)) [.slice a (b.take 512).length cap] (b.take 512):=by rw [hlen];exact hTK.below (fun _ _ h=>h) HBZ.out
 have hcv:=conv (w.alloc (.cells #[.string ⟨#[]⟩,.string ⟨#[]⟩,.string ⟨#[]⟩,.int .i64 0,.int .i64 0,.int .i64 0,.int .i64 0,.int .i64 0,.int .u8 0,.string ⟨#[]⟩,.string ⟨#[]⟩] 62)) hTK2
 rw [hlen] at hcv
 have HHR:=Lib.hid (fun W=>HeadOf_any (ofL (b.take 512)) W (by rw [ofL_size,hlen];decide))
 have HF:=Lib.hid (firstOf_bad (blockOf_head hs hh) hh)
 have HP:Hid (headOf (ofL (b.take 512))=head512 b):=Lib.hid rfl
 rw [HP.out] at HHR
 generalize head512 b=p at *
 obtain ⟨hd,e0⟩:=p
 simp only at hh HF HHR
 have hq:(e0 != 0)=true:=by rw [bne_iff_ne];exact hh
 have hls:¬ ((b.length:Int)<512):=by omega
 clear h hTK hTK2 hh hs
 go_enter Tryz.func54,Tryz.ntmps54
 go_wp2_with fail
 refine (HHR.out _).mono ?_
 rintro e w1 ⟨rfl,hb⟩
 have HB1:=Lib.hid (HBZ.out.trans (hb.mono HBZ.out.size))
 have HR1:=Lib.hid ((hb.block _ (Array.getElem?_eq_some_iff.1 HRZ.out).1).trans HRZ.out)
 have hlr:=(Array.getElem?_eq_some_iff.1 HR1.out).1
 clear hb HRZ
 obtain ⟨r0,r1,r2,r3,r4,r5,r6,r7,r8,r9,r10⟩:=cells11 HR1.out
 obtain ⟨f0,f1,f2,f3,f4,f5,f6,f7,f8,f9,f10⟩:=froz11 HR1.out
 go_upto_region 4 with fail
 have hne:w.heap.size≠w1.heap.size:=by omega
 go_wp2
 (try simp only [Exit.inBlock,Exit.then])
 refine bodyPost_ret (v := .tuple #[.agg #[.string ⟨#[]⟩,.string ⟨#[]⟩,.string ⟨#[]⟩,.int .i64 0,.int .i64 0,.int .i64 0,.int .i64 0,.int .i64 0,.int .u8 0,.string ⟨#[]⟩,.string ⟨#[]⟩],.slice none 0 0,.int .i64 0,.int .i64 e0]) (by rw [results_cell_tmp4 rfl];go_simp) rfl ?_
 rw [HF.out]
 have X:=Lib.hid ((((((((((((HB1.out.setCell (p:=⟨w.heap.size,0,none⟩) (Nat.le_refl _) (.string ⟨#[]⟩)).setCell (p:=⟨w.heap.size,1,none⟩) (Nat.le_refl _) (.string ⟨#[]⟩)).setCell (p:=⟨w.heap.size,2,none⟩) (Nat.le_refl _) (.string ⟨#[]⟩)).setCell (p:=⟨w.heap.size,3,none⟩) (Nat.le_refl _) (.int .i64 0)).setCell (p:=⟨w.heap.size,4,none⟩) (Nat.le_refl _) (.int .i64 0)).setCell (p:=⟨w.heap.size,5,none⟩) (Nat.le_refl _) (.int .i64 0)).setCell (p:=⟨w.heap.size,6,none⟩) (Nat.le_refl _) (.int .i64 0)).setCell (p:=⟨w.heap.size,7,none⟩) (Nat.le_refl _) (.int .i64 0)).setCell (p:=⟨w.heap.size,8,none⟩) (Nat.le_refl _) (.int .u8 0)).setCell (p:=⟨w.heap.size,9,none⟩) (Nat.le_refl _) (.string ⟨#[]⟩)).setCell (p:=⟨w.heap.size,10,none⟩) (Nat.le_refl _) (.string ⟨#[]⟩)))
 exact ⟨_,rfl,OwnBs.nil _ _ _,X.out.alloc X.out.size _⟩
set_option maxRecDepth 100000 in
set_option maxHeartbeats 1000000 in
theorem First_ok (v : Value) (b : List UInt8) (w : World) (h : SliceC maxLen 1 ByteC w [v] b) (hbl : b.length ≤ 1048576) (hs : ¬ b.length < 512) (hh : (head512 b).2 = 0) :
 Calls Tryz.prog 54 #[v] w (RetFst 5 HeadN.val' w (firstOf b)):=by
 obtain ⟨a,cap,hv,hcp⟩:=bytes_form h
 subst hv
 have hcm:cap<=maxLen:=by obtain ⟨_,_,hv,_,h2,_⟩:=h;simp only [List.cons.injEq,Value.slice.injEq,and_true] at hv;omega
 have hsl:∀ W:World,(Instr.slice 24 (.slice a b.length cap) none (some (.int .i64 512)) none).run Tryz.prog W = .ok (.slice a 512 cap) W:=fun W=>run_takeB W a b.length cap 512 (by omega) hcp
 have H:=Lib.hid h
 have hTK:=bytes_take (i:=512) h (by omega)
 have HBZ:=Lib.hid ((Below.refl w.heap.size w).alloc (Nat.le_refl _) (.cells #[.string ⟨#[]⟩,.string ⟨#[]⟩,.string ⟨#[]⟩,.int .i64 0,.int .i64 0,.int .i64 0,.int .i64 0,.int .i64 0,.int .u8 0,.string ⟨#[]⟩,.string ⟨#[]⟩] 62))
 have HRZ:Hid ((w.alloc (.cells #[.string ⟨#[]⟩,.string ⟨#[]⟩,.string ⟨#[]⟩,.int .i64 0,.int .i64 0,.int .i64 0,.int .i64 0,.int .i64 0,.int .u8 0,.string ⟨#[]⟩,.string ⟨#[]⟩] 62)).heap[w.heap.size]?=some (.cells #[.string ⟨#[]⟩,.string ⟨#[]⟩,.string ⟨#[]⟩,.int .i64 0,.int .i64 0,.int .i64 0,.int .i64 0,.int .i64 0,.int .u8 0,.string ⟨#[]⟩,.string ⟨#[]⟩] 62 (0,0))):=Lib.hid (heap_alloc_new _ _)
 have hlen:(b.take 512).length=512:=by rw [List.length_take];omega
 have hTK2:SliceC maxLen 1 ByteC (w.alloc (.cells #[.string ⟨#[]⟩,.string ⟨#[]⟩,.string ⟨#[]⟩,.int .i64 0,.int .i64 0,.int .i64 0,.int .i64 0,.int .i64 0,.int .u8 0,.string ⟨#[]⟩,.string ⟨#[]⟩] 62)) [.slice a (b.take 512).length cap] (b.take 512):=by rw [hlen];exact hTK.below (fun _ _ h=>h) HBZ.out
 have hcv:=conv (w.alloc (.cells #[.string ⟨#[]⟩,.string ⟨#[]⟩,.string ⟨#[]⟩,.int .i64 0,.int .i64 0,.int .i64 0,.int .i64 0,.int .i64 0,.int .u8 0,.string ⟨#[]⟩,.string ⟨#[]⟩] 62)) hTK2
 rw [hlen] at hcv
 have HHR:=Lib.hid (fun W=>HeadOf_any (ofL (b.take 512)) W (by rw [ofL_size,hlen];decide))
 have HF0:=Lib.hid (blockOf_cut hs hh)
 have HP:Hid (headOf (ofL (b.take 512))=head512 b):=Lib.hid rfl
 have hsz:=head512_size b
 have hs2:∀ W:World,(Instr.slice 24 (.slice a b.length cap) (some (.int .i64 512)) none none).run Tryz.prog W = .ok (sliced a 512 b.length cap 1) W:=fun W=>run_dropB W a b.length cap 512 (by omega) hcp
 have HDR:=Lib.hid (bytes_drop (i:=512) h (by omega))
 have hdl:(b.drop 512).length<=1048576:=by rw [List.length_drop];omega
 have HPC0:=Lib.hid (fun v W h=>PadCutR_any (N:=maxLen) v (b.drop 512) (head512 b).1.size W (by unfold i64;omega) h hdl)
 have hps:=padCut_small (l:=b.drop 512) (n:=(head512 b).1.size)
 rw [HP.out] at HHR
 generalize sliced a 512 b.length cap 1=sl at *
 generalize head512 b=p at *
 obtain ⟨hd,e0⟩:=p
 simp only at hh HF0 HHR hsz HPC0
 subst hh
 generalize padCut (b.drop 512) hd.size=pc at *
 obtain ⟨p1,p2,p3⟩:=pc
 simp only at hps
 have hls:¬ ((b.length:Int)<512):=by omega
 clear h hTK hTK2 hs
 go_enter Tryz.func54,Tryz.ntmps54
 go_wp2_with fail
 refine (HHR.out _).mono ?_
 rintro e w1 ⟨rfl,hb⟩
 have HB1:=Lib.hid (HBZ.out.trans (hb.mono HBZ.out.size))
 have HR1:=Lib.hid ((hb.block _ (Array.getElem?_eq_some_iff.1 HRZ.out).1).trans HRZ.out)
 have hlr:=(Array.getElem?_eq_some_iff.1 HR1.out).1
 clear hb HRZ
 go_upto_region 6 with fail
 have HA:=Lib.hid ((Below.refl w1.heap.size w1).alloc (Nat.le_refl _) (.cells #[.string hd.nm,.string hd.px,.string hd.lk,.int .i64 hd.mode,.int .i64 hd.uid,.int .i64 hd.gid,.int .i64 hd.size,.int .i64 hd.time,.int .u8 hd.typ.toNat,.string hd.user,.string hd.group] 62))
 have HB2:=Lib.hid (HB1.out.trans (HA.out.mono HB1.out.size))
 have HD2:Hid ((w1.alloc (.cells #[.string hd.nm,.string hd.px,.string hd.lk,.int .i64 hd.mode,.int .i64 hd.uid,.int .i64 hd.gid,.int .i64 hd.size,.int .i64 hd.time,.int .u8 hd.typ.toNat,.string hd.user,.string hd.group] 62)).heap[w1.heap.size]?=some (.cells #[.string hd.nm,.string hd.px,.string hd.lk,.int .i64 hd.mode,.int .i64 hd.uid,.int .i64 hd.gid,.int .i64 hd.size,.int .i64 hd.time,.int .u8 hd.typ.toNat,.string hd.user,.string hd.group] 62 (0,0))):=Lib.hid (heap_alloc_new _ _)
 have HR2:=Lib.hid ((HA.out.block _ hlr).trans HR1.out)
 have hne:w.heap.size≠w1.heap.size:=by omega
 generalize w1.heap.size=bh at *
 generalize w1.alloc (.cells #[.string hd.nm,.string hd.px,.string hd.lk,.int .i64 hd.mode,.int .i64 hd.uid,.int .i64 hd.gid,.int .i64 hd.size,.int .i64 hd.time,.int .u8 hd.typ.toNat,.string hd.user,.string hd.group] 62)=w2 at *
 clear HA HB1 HR1 hlr
 have hbh:=(Array.getElem?_eq_some_iff.1 HD2.out).1
 have hc6:w2.cell? ⟨bh,6,none⟩=some (.int .i64 hd.size):=cellAt HD2.out rfl
 have HPC:=Lib.hid (fun W (hB:Below w2.heap.size w2 W)=>show Calls Tryz.prog 126 #[sl,.int .i64 hd.size] W (fun e w'=>∃ v1 v2,e = .returned (.tuple #[v1,v2,.int .i64 p3])/\Hid (OwnBs 5 w' w2.heap.size v1 p1)/\Hid (OwnBs 5 w' w2.heap.size v2 p2)/\w'.cell? ⟨bh,6,none⟩=some (.int .i64 hd.size)/\Below w2.heap.size w2 w') from
  (HPC0.out sl W (HDR.out.below (fun _ _ h=>h) (HB2.out.trans (hB.mono HB2.out.size)))).mono fun e w' hx=>by
    obtain ⟨v1,v2,h1,h2,h3,h4⟩:=hx
    have hb2:=hB.trans (h4.mono hB.size)
    exact ⟨v1,v2,h1,Lib.hid (h2.mono hB.size),Lib.hid (h3.mono hB.size),cellAt ((hb2.block bh hbh).trans HD2.out) rfl,hb2⟩)
 have hdrw:=(Below.refl w2.heap.size w2).drew
 go_cut [7,8,9] from 25 to 33 (fun u7 u8 u9 wy=>u7 = .int .i64 p3/\Hid (OwnBs 5 wy w2.heap.size u8 p1)/\Hid (OwnBs 5 wy w2.heap.size u9 p2)/\Hid (Below w2.heap.size w2 wy))
 case first =>
  go_region_held3 (fun w'=>w'.cell? ⟨bh,6,none⟩=some (.int .i64 hd.size)/\Below w2.heap.size w2 w') (go_keep)
   (first|(go_at_call 126;refine (HPC.out _ ?_).mono ?_;(simp [*]);rintro e w3 ⟨v1,v2,rfl,ho1,ho2,r6,hb3⟩))
  go_wp2_with fail
  go_meet
  case rel=>exact ⟨rfl,ho1,ho2,Lib.hid hb3⟩
 case rest =>
 obtain ⟨rfl,HO1,HO2,HB3⟩:=hcut
 obtain ⟨w3,rfl⟩:∃ W:World,W=wc:=⟨_,rfl⟩
 have HD3:=Lib.hid ((HB3.out.block _ hbh).trans HD2.out)
 have HR3:=Lib.hid ((HB3.out.block _ (Array.getElem?_eq_some_iff.1 HR2.out).1).trans HR2.out)
 have HBW:=Lib.hid (HB2.out.trans (HB3.out.mono HB2.out.size))
 have hrl:w.heap.size<w2.heap.size:=(Array.getElem?_eq_some_iff.1 HR2.out).1
 clear HPC HPC0 HR2 HD2 hc6 hdrw HDR
 obtain ⟨r0,r1,r2,r3,r4,r5,r6,r7,r8,r9,r10⟩:=cells11 HR3.out
 obtain ⟨f0,f1,f2,f3,f4,f5,f6,f7,f8,f9,f10⟩:=froz11 HR3.out
 obtain ⟨c0,c1,c2,c3,c4,c5,c6,c7,c8,c9,c10⟩:=cells11 HD3.out
 have hne2:bh≠w.heap.size:=fun e=>hne e.symm
 by_cases hp3:p3=0
 ·subst hp3
  have HF:=Lib.hid (firstOf_ok HF0.out)
  have hpl:p1.length<=1048576:=Nat.le_trans hps.1 hdl
  have hpf:=padFill_le p1
  have HS1:=Lib.hid ((HO1.out.below ((Below.refl w3.heap.size w3).drew)).slice (N:=maxLen) (by unfold maxLen;omega))
  have hw1:IntKind.i64.wrap (512+((padFill p1).length:Int))=512+((padFill p1).length:Int):=by rw [IntKind.wrap_i64];omega
  have hcast:((512+(padFill p1).length:Nat):Int)=512+((padFill p1).length:Int):=by omega
  obtain ⟨x1,rfl⟩:∃ V:Value,V=u8:=⟨_,rfl⟩
  go_upto_region 9 with fail
  refine wp_region_noPanic ?_
  refine wp_region_held_drew (S:=fun w'=>w'.cell? ⟨bh,0,none⟩=some (.string hd.nm)/\w'.cell? ⟨bh,1,none⟩=some (.string hd.px)/\w'.cell? ⟨bh,2,none⟩=some (.string hd.lk)/\w'.cell? ⟨bh,3,none⟩=some (.int .i64 hd.mode)/\w'.cell? ⟨bh,4,none⟩=some (.int .i64 hd.uid)/\w'.cell? ⟨bh,5,none⟩=some (.int .i64 hd.gid)/\w'.cell? ⟨bh,6,none⟩=some (.int .i64 hd.size)/\w'.cell? ⟨bh,7,none⟩=some (.int .i64 hd.time)/\w'.cell? ⟨bh,8,none⟩=some (.int .u8 hd.typ.toNat)/\w'.cell? ⟨bh,9,none⟩=some (.string hd.user)/\w'.cell? ⟨bh,10,none⟩=some (.string hd.group)) (by kernel_rfl) (by go_keep) (fun hHeld=>?_)
  refine wpAnyH_take (i:=0) (v:=_) rfl (by kernel_rfl) (by kernel_rfl) (by kernel_rfl) (fun _ _ _ h=>h) (Or.inl ⟨by rfl,fun w5 hSw=>(by (try dsimp only at hSw);go_simp;try with_reducible rfl)⟩) hHeld ?_
  try simp only [List.getElem_toArray,List.getElem_cons_succ,List.getElem_cons_zero,Act.put,List.setIfInBounds_toArray,List.set_cons_zero,List.set_cons_succ]
  refine wpAnyH_take (i:=1) (v:=_) rfl (by kernel_rfl) (by kernel_rfl) (by kernel_rfl) (fun _ _ _ h=>h) (Or.inl ⟨by rfl,fun w5 hSw=>(by (try dsimp only at hSw);go_simp;try with_reducible rfl)⟩) hHeld ?_
  try simp only [List.getElem_toArray,List.getElem_cons_succ,List.getElem_cons_zero,Act.put,List.setIfInBounds_toArray,List.set_cons_zero,List.set_cons_succ]
  refine wpAnyH_take (i:=2) (v:=_) rfl (by kernel_rfl) (by kernel_rfl) (by kernel_rfl) (fun _ _ _ h=>h) (Or.inl ⟨by rfl,fun w5 hSw=>(by (try dsimp only at hSw);go_simp;try with_reducible rfl)⟩) hHeld ?_
  try simp only [List.getElem_toArray,List.getElem_cons_succ,List.getElem_cons_zero,Act.put,List.setIfInBounds_toArray,List.set_cons_zero,List.set_cons_succ]
  refine wpAnyH_ready (rs:=[3]) (by kernel_rfl) (by simp) ?_
  refine AllReadyH.cons rfl (fun K5 hK5=>?_) AllReadyH.nil
  rw [if_pos (by rfl)]
  go_wp2_with (go_at_call 44;refine (PadFill_any (N:=maxLen) _ p1 _ HS1.out (by omega)).mono ?_;rintro e w4 ⟨v4,rfl,ho,hb⟩;obtain ⟨a4,c4,hv4,_⟩:=bytes_form (ho.slice (N:=maxLen) (by unfold maxLen;omega));subst hv4)
  have HD4:=Lib.hid ((hb.block bh (Array.getElem?_eq_some_iff.1 HD3.out).1).trans HD3.out)
  have HR4:=Lib.hid ((hb.block _ (Array.getElem?_eq_some_iff.1 HR3.out).1).trans HR3.out)
  have HBW4:=Lib.hid (HBW.out.drew.trans (hb.mono HBW.out.size))
  have HO4:=Lib.hid ((HO1.out.below ((Below.refl w3.heap.size w3).drew)).below hb)
  clear r0 r1 r2 r3 r4 r5 r6 r7 r8 r9 r10 f0 f1 f2 f3 f4 f5 f6 f7 f8 f9 f10
  obtain ⟨r0,r1,r2,r3,r4,r5,r6,r7,r8,r9,r10⟩:=cells11 HR4.out
  obtain ⟨f0,f1,f2,f3,f4,f5,f6,f7,f8,f9,f10⟩:=froz11 HR4.out
  refine hK5.out _ _ ⟨cellAt HD4.out rfl,cellAt HD4.out rfl,cellAt HD4.out rfl,cellAt HD4.out rfl,cellAt HD4.out rfl,cellAt HD4.out rfl,cellAt HD4.out rfl,cellAt HD4.out rfl,cellAt HD4.out rfl,cellAt HD4.out rfl,cellAt HD4.out rfl⟩ (fun hHeld2=>?_)
  clear hK5 K5
  try simp only [List.getElem_toArray,List.getElem_cons_succ,List.getElem_cons_zero,Act.put,List.setIfInBounds_toArray,List.set_cons_zero,List.set_cons_succ]
  refine wpAnyH_take (i:=4) (v:=_) rfl (by kernel_rfl) (by kernel_rfl) (by kernel_rfl) (fun _ _ _ h=>h) (Or.inl ⟨by rfl,fun w5 hSw=>(by (try dsimp only at hSw);go_simp;try with_reducible rfl)⟩) hHeld2 ?_
  try simp only [List.getElem_toArray,List.getElem_cons_succ,List.getElem_cons_zero,Act.put,List.setIfInBounds_toArray,List.set_cons_zero,List.set_cons_succ]
  refine wpAnyH_take (i:=5) (v:=_) rfl (by kernel_rfl) (by kernel_rfl) (by kernel_rfl) (fun _ _ _ h=>h) (Or.inl ⟨by rfl,fun w5 hSw=>(by (try dsimp only at hSw);go_simp;try with_reducible rfl)⟩) hHeld2 ?_
  try simp only [List.getElem_toArray,List.getElem_cons_succ,List.getElem_cons_zero,Act.put,List.setIfInBounds_toArray,List.set_cons_zero,List.set_cons_succ]
  refine wpAnyH_ready (rs:=[6]) (by kernel_rfl) (by simp) ?_
  refine AllReadyH.cons rfl (fun K5 hK5=>?_) AllReadyH.nil
  go_simp
  refine hK5.out _ _ (by go_keep) (fun hHeld3=>?_)
  clear hK5 K5
  try simp only [List.getElem_toArray,List.getElem_cons_succ,List.getElem_cons_zero,Act.put,List.setIfInBounds_toArray,List.set_cons_zero,List.set_cons_succ]
  refine wpAnyH_take (i:=7) (v:=_) rfl (by kernel_rfl) (by kernel_rfl) (by kernel_rfl) (fun _ _ _ h=>h) (Or.inl ⟨by rfl,fun w5 hSw=>(by (try dsimp only at hSw);go_simp;try with_reducible rfl)⟩) hHeld3 ?_
  try simp only [List.getElem_toArray,List.getElem_cons_succ,List.getElem_cons_zero,Act.put,List.setIfInBounds_toArray,List.set_cons_zero,List.set_cons_succ]
  refine wpAnyH_take (i:=8) (v:=_) rfl (by kernel_rfl) (by kernel_rfl) (by kernel_rfl) (fun _ _ _ h=>h) (Or.inl ⟨by rfl,fun w5 hSw=>(by (try dsimp only at hSw);go_simp;try with_reducible rfl)⟩) hHeld3 ?_
  try simp only [List.getElem_toArray,List.getElem_cons_succ,List.getElem_cons_zero,Act.put,List.setIfInBounds_toArray,List.set_cons_zero,List.set_cons_succ]
  refine wpAnyH_take (i:=9) (v:=_) rfl (by kernel_rfl) (by kernel_rfl) (by kernel_rfl) (fun _ _ _ h=>h) (Or.inl ⟨by rfl,fun w5 hSw=>(by (try dsimp only at hSw);go_simp;try with_reducible rfl)⟩) hHeld3 ?_
  try simp only [List.getElem_toArray,List.getElem_cons_succ,List.getElem_cons_zero,Act.put,List.setIfInBounds_toArray,List.set_cons_zero,List.set_cons_succ]
  refine wpAnyH_done (by kernel_rfl) ?_ _
  refine NoPanic.normal ?_
  go_wp2
  (try simp only [Exit.inBlock,Exit.then])
  refine bodyPost_ret (v := .tuple #[HeadN.val' hd,x1,.int .i64 (512+((padFill p1).length:Int)),.int .i64 0]) (by rw [results_cell_tmp4 rfl];go_simp) rfl ?_
  rw [HF.out]
  have hn1:x1.ownBlock≠some w.heap.size:=fun e=>by have:=(World.ownsRow.lt HO1.out _ e).1;omega
  exact ⟨x1,by rw [hcast],(ownsRow_elsewhere (j:=10) _ (ownsRow_elsewhere (j:=9) _ (ownsRow_elsewhere (j:=8) _ (ownsRow_elsewhere (j:=7) _ (ownsRow_elsewhere (j:=6) _ (ownsRow_elsewhere (j:=5) _ (ownsRow_elsewhere (j:=4) _ (ownsRow_elsewhere (j:=3) _ (ownsRow_elsewhere (j:=2) _ (ownsRow_elsewhere (j:=1) _ (ownsRow_elsewhere (j:=0) _ (HO4.out.mono (Nat.le_of_lt hrl)) hn1) hn1) hn1) hn1) hn1) hn1) hn1) hn1) hn1) hn1) hn1),(((((((((((HBW4.out.setCell (p:=⟨w.heap.size,0,none⟩) (Nat.le_refl _) (.string hd.nm)).setCell (p:=⟨w.heap.size,1,none⟩) (Nat.le_refl _) (.string hd.px)).setCell (p:=⟨w.heap.size,2,none⟩) (Nat.le_refl _) (.string hd.lk)).setCell (p:=⟨w.heap.size,3,none⟩) (Nat.le_refl _) (.int .i64 hd.mode)).setCell (p:=⟨w.heap.size,4,none⟩) (Nat.le_refl _) (.int .i64 hd.uid)).setCell (p:=⟨w.heap.size,5,none⟩) (Nat.le_refl _) (.int .i64 hd.gid)).setCell (p:=⟨w.heap.size,6,none⟩) (Nat.le_refl _) (.int .i64 hd.size)).setCell (p:=⟨w.heap.size,7,none⟩) (Nat.le_refl _) (.int .i64 hd.time)).setCell (p:=⟨w.heap.size,8,none⟩) (Nat.le_refl _) (.int .u8 hd.typ.toNat)).setCell (p:=⟨w.heap.size,9,none⟩) (Nat.le_refl _) (.string hd.user)).setCell (p:=⟨w.heap.size,10,none⟩) (Nat.le_refl _) (.string hd.group))⟩
 ·have HF:=Lib.hid (firstOf_bad HF0.out hp3)
  have hq:(p3 != 0)=true:=by rw [bne_iff_ne];exact hp3
  go_wp2
  (try simp only [Exit.inBlock,Exit.then])
  refine bodyPost_ret (v := .tuple #[.agg #[.string ⟨#[]⟩,.string ⟨#[]⟩,.string ⟨#[]⟩,.int .i64 0,.int .i64 0,.int .i64 0,.int .i64 0,.int .i64 0,.int .u8 0,.string ⟨#[]⟩,.string ⟨#[]⟩],.slice none 0 0,.int .i64 0,.int .i64 p3]) (by rw [results_cell_tmp4 rfl];go_simp) rfl ?_
  rw [HF.out]
  exact ⟨_,rfl,OwnBs.nil _ _ _,(((((((((((HBW.out.setCell (p:=⟨w.heap.size,0,none⟩) (Nat.le_refl _) (.string ⟨#[]⟩)).setCell (p:=⟨w.heap.size,1,none⟩) (Nat.le_refl _) (.string ⟨#[]⟩)).setCell (p:=⟨w.heap.size,2,none⟩) (Nat.le_refl _) (.string ⟨#[]⟩)).setCell (p:=⟨w.heap.size,3,none⟩) (Nat.le_refl _) (.int .i64 0)).setCell (p:=⟨w.heap.size,4,none⟩) (Nat.le_refl _) (.int .i64 0)).setCell (p:=⟨w.heap.size,5,none⟩) (Nat.le_refl _) (.int .i64 0)).setCell (p:=⟨w.heap.size,6,none⟩) (Nat.le_refl _) (.int .i64 0)).setCell (p:=⟨w.heap.size,7,none⟩) (Nat.le_refl _) (.int .i64 0)).setCell (p:=⟨w.heap.size,8,none⟩) (Nat.le_refl _) (.int .u8 0)).setCell (p:=⟨w.heap.size,9,none⟩) (Nat.le_refl _) (.string ⟨#[]⟩)).setCell (p:=⟨w.heap.size,10,none⟩) (Nat.le_refl _) (.string ⟨#[]⟩))⟩
theorem First_any (v : Value) (b : List UInt8) (w : World) (h : SliceC maxLen 1 ByteC w [v] b) (hbl : b.length ≤ 1048576) :
 Calls Tryz.prog 54 #[v] w (RetFst 5 HeadN.val' w (firstOf b)):=by
 by_cases hs:b.length<512
 ·exact First_short v b w h hs
 ·by_cases hh:(head512 b).2=0
  ·exact First_ok v b w h hbl hs hh
  ·exact First_head v b w h hs hh
end Go.Proofs.YtaffgndickdbiaaGreatDoor
