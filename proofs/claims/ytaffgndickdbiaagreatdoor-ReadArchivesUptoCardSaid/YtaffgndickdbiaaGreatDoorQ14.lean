/-
  Texts: RecSt, Block, Marked, Atoi, UnpackSpec.
-/
import Derived.Test.YtaffgndickdbiaaGreatDoorQ13
import Derived.Lib.ConvBytes
set_option linter.unusedVariables false
set_option linter.unusedSimpArgs false
set_option linter.unusedSectionVars false
namespace Go.Creel
open Go.RowKit
theorem ownsRow_elsewhere {w : World} {B size n b j : Nat} {t : TypeId} {v : Value} {xs : List Value} (u : Value) (h : w.ownsRow B t size v n xs) (hne : v.ownBlock ≠ some b) : (w.setCell ⟨b,j,none⟩ u).ownsRow B t size v n xs := by
 refine ⟨h.1,?_⟩
 rcases h.2 with h0|⟨g,cap,cur,rfl,hbg,hg,r⟩
 ·exact .inl h0
 ·refine .inr ⟨g,cap,cur,rfl,hbg,?_,r⟩
  rw [heap_setCell_other w ⟨b,j,none⟩ g u (fun e=>hne (by rw [e];rfl))]
  exact hg
theorem ownsRow_form2 {w : World} {B size n : Nat} {t : TypeId} {v : Value} {xs : List Value} (h : w.ownsRow B t size v (n + 1) xs) : ∃ g cap,v = .slice (some ⟨g,0,none⟩) (n + 1) cap := by
 rcases h.2 with ⟨_,h0⟩|⟨g,cap,cur,rfl,_⟩
 ·omega
 ·exact ⟨g,cap,rfl⟩
structure RecSt (tR tP : TypeId) (w0 w : World) (b : Nat) (cs : Array Value) (v : Value) (l : List Rec) : Prop where
 row:w.heap[b]?=some (.cells cs tP (0,0))
 own:OwnRecs tR w (b+1) v l
 low:w0.heap.size<=b
 bel:Below w0.heap.size w0 w
section
variable {tR tP : TypeId} {w0 w w' w4 : World} {b : Nat} {cs : Array Value} {v v4 : Value} {l : List Rec}
theorem RecSt.lt (h : RecSt tR tP w0 w b cs v l) : b < w.heap.size := (Array.getElem?_eq_some_iff.1 h.row).1
theorem RecSt.below (h : RecSt tR tP w0 w b cs v l) (hb : Below w.heap.size w w') : RecSt tR tP w0 w' b cs v l :=
 ⟨(hb.block b h.lt).trans h.row,h.own.below hb,h.low,h.bel.trans (hb.mono h.bel.size)⟩
theorem RecSt.cell (h : RecSt tR tP w0 w b cs v l) (j : Nat) : w.cell? ⟨b,j,none⟩ = cs[j]? := cell_of_row w b j cs tP (0,0) h.row
theorem RecSt.free (h : RecSt tR tP w0 w b cs v l) (j : Nat) : w.frozen? ⟨b,j,none⟩ = false := frozen_of_row w b j cs tP h.row
theorem RecSt.ne (h : RecSt tR tP w0 w b cs v l) : v.ownBlock ≠ some b := fun e => by have := (World.ownsRow.lt h.own b e).1; omega
theorem RecSt.row4 (h : RecSt tR tP w0 w b cs v l) (hg : w.grownBy w4 v.ownBlock) : w4.heap[b]? = some (.cells cs tP (0,0)) :=
 (by obtain ⟨a1,a2,a3,a4,a5⟩:=hg;exact (a5 b h.lt (fun e=>h.ne e.symm)).trans h.row)
theorem RecSt.cell4 (h : RecSt tR tP w0 w b cs v l) (hg : w.grownBy w4 v.ownBlock) (j : Nat) : w4.cell? ⟨b,j,none⟩ = cs[j]? := cell_of_row w4 b j cs tP (0,0) (h.row4 hg)
theorem RecSt.free4 (h : RecSt tR tP w0 w b cs v l) (hg : w.grownBy w4 v.ownBlock) (j : Nat) : w4.frozen? ⟨b,j,none⟩ = false := frozen_of_row w4 b j cs tP (h.row4 hg)
theorem RecSt.put (h : RecSt tR tP w0 w b cs v l) (j : Nat) (u : Value) {cs' : Array Value} (e : cs.setIfInBounds j u = cs') : RecSt tR tP w0 (w.setCell ⟨b,j,none⟩ u) b cs' v l := by
 subst e
 exact ⟨heap_setCell_same w b j _ tP _ h.row,ownsRow_elsewhere _ h.own h.ne,h.low,h.bel.setCell (p:=⟨b,j,none⟩) h.low u⟩
theorem RecSt.say (h : RecSt tR tP w0 w b cs v l) (j : Nat) {r : Rec} (ho : w4.ownsRow (b + 1) tR 2 v4 (l.length + 1) (l.flatMap Rec.cl ++ [r].flatMap Rec.cl)) (hg : w.grownBy w4 v.ownBlock) {cs' : Array Value} (e : cs.setIfInBounds j v4 = cs') :
 RecSt tR tP w0 (w4.setCell ⟨b,j,none⟩ v4) b cs' v4 (l++[r]):=by
 subst e
 have own4:OwnRecs tR w4 (b+1) v4 (l++[r]):=OwnRecs.app (m:=[r]) ho
 have hne4:v4.ownBlock≠some b:=fun e=>by have:=(World.ownsRow.lt own4 b e).1;omega
 refine ⟨heap_setCell_same w4 b j _ tP _ (h.row4 hg),ownsRow_elsewhere _ own4 hne4,h.low,?_⟩
 refine Below.setCell ?_ (p:=⟨b,j,none⟩) h.low v4
 exact h.bel.grown hg h.bel.size (fun k hk=>by have:=(World.ownsRow.lt h.own k hk).1;have:=h.low;omega)
theorem RecSt.since {wx : World} (h : RecSt tR tP wx w b cs v l) (hb : Below w0.heap.size w0 wx) : RecSt tR tP w0 w b cs v l :=
 ⟨h.row,h.own,Nat.le_trans hb.size h.low,hb.trans (h.bel.mono hb.size)⟩
end
open Go.RowKit
theorem results_cell_tmp4 {fn : Func} {p u x y : Tmp} {ty : TypeId} (h : fn.results = #[.cell p ty,.tmp u,.tmp x,.tmp y]) (tmps : Array Value) (P : Program) (w : World) :
 (results fn tmps).run P w =
   ((asAddr (tmps.getD p undef)).run P w).andThen fun a w₁=>((loadVar ty a).run P w₁).andThen fun v w₂ => .ok (.tuple #[v,tmps.getD u undef,tmps.getD x undef,tmps.getD y undef]) w₂:=by
 simp only [results,h]
 simp [Sem.run_bind,Result.andThen]
def RetBlk (t : TypeId) (vh : HeadN → Value) (w : World) (p : HeadN × List UInt8 × List UInt8 × Int) (e : Ending) (w' : World) : Prop :=
 ∃ v u,e = .returned (.tuple #[vh p.1,v,u,.int .i64 p.2.2.2])/\OwnBs t w' w.heap.size v p.2.1/\OwnBs t w' w.heap.size u p.2.2.1/\Below w.heap.size w w'
end Go.Creel
namespace Go.Proofs.YtaffgndickdbiaaGreatDoor
open Go.Creel Go.RowKit
set_option maxRecDepth 100000 in
set_option maxHeartbeats 400000 in
theorem Block_short (v : Value) (b : List UInt8) (w : World) (h : SliceC maxLen 1 ByteC w [v] b) (hs : b.length < 512) :
 Calls Tryz.prog 50 #[v] w (RetBlk 5 HeadN.val' w (blockOf b)):=by
 obtain ⟨a,cap,hv⟩:∃ a cap,v = .slice a b.length cap:=by
  obtain ⟨a,cap,hv,_⟩:=h
  exact ⟨a,cap,by simpa using hv⟩
 subst hv
 have HF:=Lib.hid (blockOf_short hs)
 have HBZ:=Lib.hid ((Below.refl w.heap.size w).alloc (Nat.le_refl _) (.cells #[.string ⟨#[]⟩,.string ⟨#[]⟩,.string ⟨#[]⟩,.int .i64 0,.int .i64 0,.int .i64 0,.int .i64 0,.int .i64 0,.int .u8 0,.string ⟨#[]⟩,.string ⟨#[]⟩] 62))
 clear h
 go_enter Tryz.func50,Tryz.ntmps50
 go_wp2
 (try simp only [Exit.inBlock,Exit.then])
 refine bodyPost_ret (v := .tuple #[.agg #[.string ⟨#[]⟩,.string ⟨#[]⟩,.string ⟨#[]⟩,.int .i64 0,.int .i64 0,.int .i64 0,.int .i64 0,.int .i64 0,.int .u8 0,.string ⟨#[]⟩,.string ⟨#[]⟩],.slice none 0 0,.slice none 0 0,.int .i64 7]) (by rw [results_cell_tmp4 rfl];go_simp) rfl ?_
 rw [HF.out]
 exact ⟨_,_,rfl,OwnBs.nil _ _ _,OwnBs.nil _ _ _,HBZ.out⟩
set_option maxRecDepth 100000 in
set_option maxHeartbeats 400000 in
theorem Block_head (v : Value) (b : List UInt8) (w : World) (h : SliceC maxLen 1 ByteC w [v] b) (hs : ¬ b.length < 512) (hh : ¬ (head512 b).2 = 0) :
 Calls Tryz.prog 50 #[v] w (RetBlk 5 HeadN.val' w (blockOf b)):=by
 obtain ⟨a,cap,hv,hcp⟩:=bytes_form h
 subst hv
 have hcm:cap<=maxLen:=by obtain ⟨_,_,hv,_,h2,_⟩:=h;simp only [List.cons.injEq,Value.slice.injEq,and_true] at hv;omega
 have hsl:∀ W:World,(Instr.slice 24 (.slice a b.length cap) none (some (.int .i64 512)) none).run Tryz.prog W = .ok (.slice a 512 cap) W:=fun W=>run_takeB W a b.length cap 512 (by omega) hcp
 have H:=Lib.hid h
 have hTK:=bytes_take (i:=512) h (by omega)
 have HBZ:=Lib.hid ((Below.refl w.heap.size w).alloc (Nat.le_refl _) (.cells #[.string ⟨#[]⟩,.string ⟨#[]⟩,.string ⟨#[]⟩,.int .i64 0,.int .i64 0,.int .i64 0,.int .i64 0,.int .i64 0,.int .u8 0,.string ⟨#[]⟩,.string ⟨#[]⟩] 62))
 have HRZ:Hid ((w.alloc (.cells #[.string ⟨#[]⟩,.string ⟨#[]⟩,.string ⟨#[]⟩,.int .i64 0,.int .i64 0,.int .i64 0,.int .i64 0,.int .i64 0,.int .u8 0,.string ⟨#[]⟩,.string ⟨#[]⟩] 62)).heap[w.heap.size]?=some (.cells #[.string ⟨#[]⟩,.string ⟨#[]⟩,.string ⟨#[]⟩,.int .i64 0,.int .i64 0,.int .i64 0,.int .i64 0,.int .i64 0,.int .u8 0,.string ⟨#[]⟩,.string ⟨#[]⟩] 62 (0,0))):=Lib.hid (heap_alloc_new _ _)
 have hlen:(b.take 512).length=512:=by rw [List.length_take];omega
 have hTK2:SliceC maxLen 1 ByteC (w.alloc (.cells #[.string ⟨#[]⟩,.string ⟨#[]⟩,.string ⟨#[]⟩,.int .i64 0,.int .i64 0,.int .i64 0,.int .i64 0,.int .i64 0,.int .u8 0,.string ⟨#[]⟩,.string ⟨#[]⟩] 62)) [.slice a (b.take 512).length cap] (b.take 512):=by rw [hlen];exact hTK.below (fun _ _ h=>h) HBZ.out
 have hcv:=conv (w.alloc (.cells #[.string ⟨#[]⟩,.string ⟨#[]⟩,.string ⟨#[]⟩,.int .i64 0,.int .i64 0,.int .i64 0,.int .i64 0,.int .i64 0,.int .u8 0,.string ⟨#[]⟩,.string ⟨#[]⟩] 62)) hTK2
 rw [hlen] at hcv
 have HHR:=Lib.hid (fun W=>HeadRead_any (ofL (b.take 512)) W (by rw [ofL_size,hlen];decide))
 have HF:=Lib.hid (blockOf_head hs hh)
 have HP:Hid (headOf (ofL (b.take 512))=head512 b):=Lib.hid rfl
 rw [HP.out] at HHR
 generalize head512 b=p at *
 obtain ⟨hd,e0⟩:=p
 simp only at hh HF HHR
 have hq:(e0 != 0)=true:=by rw [bne_iff_ne];exact hh
 have hls:¬ ((b.length:Int)<512):=by omega
 clear h hTK hTK2 hh hs
 go_enter Tryz.func50,Tryz.ntmps50
 go_wp2_with fail
 refine (HHR.out _).mono ?_
 rintro e w1 ⟨rfl,hb⟩
 have HB1:=Lib.hid (HBZ.out.trans (hb.mono HBZ.out.size))
 have HR1:=Lib.hid ((hb.block _ (Array.getElem?_eq_some_iff.1 HRZ.out).1).trans HRZ.out)
 have hlr:=(Array.getElem?_eq_some_iff.1 HR1.out).1
 clear hb HRZ
 obtain ⟨r0,r1,r2,r3,r4,r5,r6,r7,r8,r9,r10⟩:=cells11 HR1.out
 obtain ⟨f0,f1,f2,f3,f4,f5,f6,f7,f8,f9,f10⟩:=froz11 HR1.out
 go_upto_region 4 with fail
 have hne:w.heap.size≠w1.heap.size:=by omega
 go_wp2
 (try simp only [Exit.inBlock,Exit.then])
 refine bodyPost_ret (v := .tuple #[.agg #[.string ⟨#[]⟩,.string ⟨#[]⟩,.string ⟨#[]⟩,.int .i64 0,.int .i64 0,.int .i64 0,.int .i64 0,.int .i64 0,.int .u8 0,.string ⟨#[]⟩,.string ⟨#[]⟩],.slice none 0 0,.slice none 0 0,.int .i64 e0]) (by rw [results_cell_tmp4 rfl];go_simp) rfl ?_
 rw [HF.out]
 have X:=Lib.hid ((((((((((((HB1.out.setCell (p:=⟨w.heap.size,0,none⟩) (Nat.le_refl _) (.string ⟨#[]⟩)).setCell (p:=⟨w.heap.size,1,none⟩) (Nat.le_refl _) (.string ⟨#[]⟩)).setCell (p:=⟨w.heap.size,2,none⟩) (Nat.le_refl _) (.string ⟨#[]⟩)).setCell (p:=⟨w.heap.size,3,none⟩) (Nat.le_refl _) (.int .i64 0)).setCell (p:=⟨w.heap.size,4,none⟩) (Nat.le_refl _) (.int .i64 0)).setCell (p:=⟨w.heap.size,5,none⟩) (Nat.le_refl _) (.int .i64 0)).setCell (p:=⟨w.heap.size,6,none⟩) (Nat.le_refl _) (.int .i64 0)).setCell (p:=⟨w.heap.size,7,none⟩) (Nat.le_refl _) (.int .i64 0)).setCell (p:=⟨w.heap.size,8,none⟩) (Nat.le_refl _) (.int .u8 0)).setCell (p:=⟨w.heap.size,9,none⟩) (Nat.le_refl _) (.string ⟨#[]⟩)).setCell (p:=⟨w.heap.size,10,none⟩) (Nat.le_refl _) (.string ⟨#[]⟩)))
 exact ⟨_,_,rfl,OwnBs.nil _ _ _,OwnBs.nil _ _ _,X.out.alloc X.out.size _⟩
set_option maxRecDepth 100000 in
set_option maxHeartbeats 400000 in
theorem Block_ok (v : Value) (b : List UInt8) (w : World) (h : SliceC maxLen 1 ByteC w [v] b) (hbl : b.length ≤ 1048576) (hs : ¬ b.length < 512) (hh : (head512 b).2 = 0) :
 Calls Tryz.prog 50 #[v] w (RetBlk 5 HeadN.val' w (blockOf b)):=by
 obtain ⟨a,cap,hv,hcp⟩:=bytes_form h
 subst hv
 have hcm:cap<=maxLen:=by obtain ⟨_,_,hv,_,h2,_⟩:=h;simp only [List.cons.injEq,Value.slice.injEq,and_true] at hv;omega
 have hsl:∀ W:World,(Instr.slice 24 (.slice a b.length cap) none (some (.int .i64 512)) none).run Tryz.prog W = .ok (.slice a 512 cap) W:=fun W=>run_takeB W a b.length cap 512 (by omega) hcp
 have H:=Lib.hid h
 have hTK:=bytes_take (i:=512) h (by omega)
 have HBZ:=Lib.hid ((Below.refl w.heap.size w).alloc (Nat.le_refl _) (.cells #[.string ⟨#[]⟩,.string ⟨#[]⟩,.string ⟨#[]⟩,.int .i64 0,.int .i64 0,.int .i64 0,.int .i64 0,.int .i64 0,.int .u8 0,.string ⟨#[]⟩,.string ⟨#[]⟩] 62))
 have HRZ:Hid ((w.alloc (.cells #[.string ⟨#[]⟩,.string ⟨#[]⟩,.string ⟨#[]⟩,.int .i64 0,.int .i64 0,.int .i64 0,.int .i64 0,.int .i64 0,.int .u8 0,.string ⟨#[]⟩,.string ⟨#[]⟩] 62)).heap[w.heap.size]?=some (.cells #[.string ⟨#[]⟩,.string ⟨#[]⟩,.string ⟨#[]⟩,.int .i64 0,.int .i64 0,.int .i64 0,.int .i64 0,.int .i64 0,.int .u8 0,.string ⟨#[]⟩,.string ⟨#[]⟩] 62 (0,0))):=Lib.hid (heap_alloc_new _ _)
 have hlen:(b.take 512).length=512:=by rw [List.length_take];omega
 have hTK2:SliceC maxLen 1 ByteC (w.alloc (.cells #[.string ⟨#[]⟩,.string ⟨#[]⟩,.string ⟨#[]⟩,.int .i64 0,.int .i64 0,.int .i64 0,.int .i64 0,.int .i64 0,.int .u8 0,.string ⟨#[]⟩,.string ⟨#[]⟩] 62)) [.slice a (b.take 512).length cap] (b.take 512):=by rw [hlen];exact hTK.below (fun _ _ h=>h) HBZ.out
 have hcv:=conv (w.alloc (.cells #[.string ⟨#[]⟩,.string ⟨#[]⟩,.string ⟨#[]⟩,.int .i64 0,.int .i64 0,.int .i64 0,.int .i64 0,.int .i64 0,.int .u8 0,.string ⟨#[]⟩,.string ⟨#[]⟩] 62)) hTK2
 rw [hlen] at hcv
 have HHR:=Lib.hid (fun W=>HeadRead_any (ofL (b.take 512)) W (by rw [ofL_size,hlen];decide))
 have HF:=Lib.hid (blockOf_cut hs hh)
 have HP:Hid (headOf (ofL (b.take 512))=head512 b):=Lib.hid rfl
 have hsz:=head512_size b
 have hs2:∀ W:World,(Instr.slice 24 (.slice a b.length cap) (some (.int .i64 512)) none none).run Tryz.prog W = .ok (sliced a 512 b.length cap 1) W:=fun W=>run_dropB W a b.length cap 512 (by omega) hcp
 have HDR:=Lib.hid (bytes_drop (i:=512) h (by omega))
 have hdl:(b.drop 512).length<=1048576:=by rw [List.length_drop];omega
 have HPC0:=Lib.hid (fun v W h=>PadCutL_any (N:=maxLen) v (b.drop 512) (head512 b).1.size W (by unfold i64;omega) h hdl)
 rw [HP.out] at HHR
 generalize sliced a 512 b.length cap 1=sl at *
 generalize head512 b=p at *
 obtain ⟨hd,e0⟩:=p
 simp only at hh HF HHR hsz HPC0
 subst hh
 generalize padCut (b.drop 512) hd.size=pc at *
 obtain ⟨p1,p2,p3⟩:=pc
 have hls:¬ ((b.length:Int)<512):=by omega
 clear h hTK hTK2 hs
 go_enter Tryz.func50,Tryz.ntmps50
 go_wp2_with fail
 refine (HHR.out _).mono ?_
 rintro e w1 ⟨rfl,hb⟩
 have HB1:=Lib.hid (HBZ.out.trans (hb.mono HBZ.out.size))
 have HR1:=Lib.hid ((hb.block _ (Array.getElem?_eq_some_iff.1 HRZ.out).1).trans HRZ.out)
 have hlr:=(Array.getElem?_eq_some_iff.1 HR1.out).1
 clear hb HRZ
 go_upto_region 6 with fail
 have HA:=Lib.hid ((Below.refl w1.heap.size w1).alloc (Nat.le_refl _) (.cells #[.string hd.nm,.string hd.px,.string hd.lk,.int .i64 hd.mode,.int .i64 hd.uid,.int .i64 hd.gid,.int .i64 hd.size,.int .i64 hd.time,.int .u8 hd.typ.toNat,.string hd.user,.string hd.group] 62))
 have HB2:=Lib.hid (HB1.out.trans (HA.out.mono HB1.out.size))
 have HD2:Hid ((w1.alloc (.cells #[.string hd.nm,.string hd.px,.string hd.lk,.int .i64 hd.mode,.int .i64 hd.uid,.int .i64 hd.gid,.int .i64 hd.size,.int .i64 hd.time,.int .u8 hd.typ.toNat,.string hd.user,.string hd.group] 62)).heap[w1.heap.size]?=some (.cells #[.string hd.nm,.string hd.px,.string hd.lk,.int .i64 hd.mode,.int .i64 hd.uid,.int .i64 hd.gid,.int .i64 hd.size,.int .i64 hd.time,.int .u8 hd.typ.toNat,.string hd.user,.string hd.group] 62 (0,0))):=Lib.hid (heap_alloc_new _ _)
 have HR2:=Lib.hid ((HA.out.block _ hlr).trans HR1.out)
 have hne:w.heap.size≠w1.heap.size:=by omega
 generalize w1.heap.size=bh at *
 generalize w1.alloc (.cells #[.string hd.nm,.string hd.px,.string hd.lk,.int .i64 hd.mode,.int .i64 hd.uid,.int .i64 hd.gid,.int .i64 hd.size,.int .i64 hd.time,.int .u8 hd.typ.toNat,.string hd.user,.string hd.group] 62)=w2 at *
 clear HA HB1 HR1 hlr
 have hbh:=(Array.getElem?_eq_some_iff.1 HD2.out).1
 have hc6:w2.cell? ⟨bh,6,none⟩=some (.int .i64 hd.size):=cellAt HD2.out rfl
 have HPC:=Lib.hid (fun W (hB:Below w2.heap.size w2 W)=>show Calls Tryz.prog 118 #[sl,.int .i64 hd.size] W (fun e w'=>∃ v1 v2,e = .returned (.tuple #[v1,v2,.int .i64 p3])/\Hid (OwnBs 5 w' w2.heap.size v1 p1)/\Hid (OwnBs 5 w' w2.heap.size v2 p2)/\w'.cell? ⟨bh,6,none⟩=some (.int .i64 hd.size)/\Below w2.heap.size w2 w') from
  (HPC0.out sl W (HDR.out.below (fun _ _ h=>h) (HB2.out.trans (hB.mono HB2.out.size)))).mono fun e w' hx=>by
    obtain ⟨v1,v2,h1,h2,h3,h4⟩:=hx
    have hb2:=hB.trans (h4.mono hB.size)
    exact ⟨v1,v2,h1,Lib.hid (h2.mono hB.size),Lib.hid (h3.mono hB.size),cellAt ((hb2.block bh hbh).trans HD2.out) rfl,hb2⟩)
 have hdrw:=(Below.refl w2.heap.size w2).drew
 go_cut [7,8,9] from 25 to 33 (fun u7 u8 u9 wy=>u7 = .int .i64 p3/\Hid (OwnBs 5 wy w2.heap.size u8 p1)/\Hid (OwnBs 5 wy w2.heap.size u9 p2)/\Hid (Below w2.heap.size w2 wy))
 case first =>
  go_region_held3 (fun w'=>w'.cell? ⟨bh,6,none⟩=some (.int .i64 hd.size)/\Below w2.heap.size w2 w') (go_keep)
   (first|(go_at_call 118;refine (HPC.out _ ?_).mono ?_;(simp [*]);rintro e w3 ⟨v1,v2,rfl,ho1,ho2,r6,hb3⟩))
  go_wp2_with fail
  go_meet
  case rel=>exact ⟨rfl,ho1,ho2,Lib.hid hb3⟩
 case rest =>
 obtain ⟨rfl,HO1,HO2,HB3⟩:=hcut
 obtain ⟨w3,rfl⟩:∃ W:World,W=wc:=⟨_,rfl⟩
 have HD3:=Lib.hid ((HB3.out.block _ hbh).trans HD2.out)
 have HR3:=Lib.hid ((HB3.out.block _ (Array.getElem?_eq_some_iff.1 HR2.out).1).trans HR2.out)
 have HBW:=Lib.hid (HB2.out.trans (HB3.out.mono HB2.out.size))
 have hrl:w.heap.size<w2.heap.size:=(Array.getElem?_eq_some_iff.1 HR2.out).1
 clear HPC HPC0 HR2 HD2 hc6 hdrw HDR
 obtain ⟨r0,r1,r2,r3,r4,r5,r6,r7,r8,r9,r10⟩:=cells11 HR3.out
 obtain ⟨f0,f1,f2,f3,f4,f5,f6,f7,f8,f9,f10⟩:=froz11 HR3.out
 obtain ⟨c0,c1,c2,c3,c4,c5,c6,c7,c8,c9,c10⟩:=cells11 HD3.out
 have hne2:bh≠w.heap.size:=fun e=>hne e.symm
 go_wp2
 (try simp only [Exit.inBlock,Exit.then])
 obtain ⟨x1,rfl⟩:∃ V:Value,V=u8:=⟨_,rfl⟩
 obtain ⟨x2,rfl⟩:∃ V:Value,V=u9:=⟨_,rfl⟩
 refine bodyPost_ret (v := .tuple #[HeadN.val' hd,x1,x2,.int .i64 p3]) (by rw [results_cell_tmp4 rfl];go_simp) rfl ?_
 rw [HF.out]
 have hn1:x1.ownBlock≠some w.heap.size:=fun e=>by have:=(World.ownsRow.lt HO1.out _ e).1;omega
 have hn2:x2.ownBlock≠some w.heap.size:=fun e=>by have:=(World.ownsRow.lt HO2.out _ e).1;omega
 exact ⟨x1,x2,rfl,(ownsRow_elsewhere (j:=10) _ (ownsRow_elsewhere (j:=9) _ (ownsRow_elsewhere (j:=8) _ (ownsRow_elsewhere (j:=7) _ (ownsRow_elsewhere (j:=6) _ (ownsRow_elsewhere (j:=5) _ (ownsRow_elsewhere (j:=4) _ (ownsRow_elsewhere (j:=3) _ (ownsRow_elsewhere (j:=2) _ (ownsRow_elsewhere (j:=1) _ (ownsRow_elsewhere (j:=0) _ (HO1.out.mono (Nat.le_of_lt hrl)) hn1) hn1) hn1) hn1) hn1) hn1) hn1) hn1) hn1) hn1) hn1),(ownsRow_elsewhere (j:=10) _ (ownsRow_elsewhere (j:=9) _ (ownsRow_elsewhere (j:=8) _ (ownsRow_elsewhere (j:=7) _ (ownsRow_elsewhere (j:=6) _ (ownsRow_elsewhere (j:=5) _ (ownsRow_elsewhere (j:=4) _ (ownsRow_elsewhere (j:=3) _ (ownsRow_elsewhere (j:=2) _ (ownsRow_elsewhere (j:=1) _ (ownsRow_elsewhere (j:=0) _ (HO2.out.mono (Nat.le_of_lt hrl)) hn2) hn2) hn2) hn2) hn2) hn2) hn2) hn2) hn2) hn2) hn2),(((((((((((HBW.out.setCell (p:=⟨w.heap.size,0,none⟩) (Nat.le_refl _) (.string hd.nm)).setCell (p:=⟨w.heap.size,1,none⟩) (Nat.le_refl _) (.string hd.px)).setCell (p:=⟨w.heap.size,2,none⟩) (Nat.le_refl _) (.string hd.lk)).setCell (p:=⟨w.heap.size,3,none⟩) (Nat.le_refl _) (.int .i64 hd.mode)).setCell (p:=⟨w.heap.size,4,none⟩) (Nat.le_refl _) (.int .i64 hd.uid)).setCell (p:=⟨w.heap.size,5,none⟩) (Nat.le_refl _) (.int .i64 hd.gid)).setCell (p:=⟨w.heap.size,6,none⟩) (Nat.le_refl _) (.int .i64 hd.size)).setCell (p:=⟨w.heap.size,7,none⟩) (Nat.le_refl _) (.int .i64 hd.time)).setCell (p:=⟨w.heap.size,8,none⟩) (Nat.le_refl _) (.int .u8 hd.typ.toNat)).setCell (p:=⟨w.heap.size,9,none⟩) (Nat.le_refl _) (.string hd.user)).setCell (p:=⟨w.heap.size,10,none⟩) (Nat.le_refl _) (.string hd.group))⟩
theorem Block_any (v : Value) (b : List UInt8) (w : World) (h : SliceC maxLen 1 ByteC w [v] b) (hbl : b.length ≤ 1048576) :
 Calls Tryz.prog 50 #[v] w (RetBlk 5 HeadN.val' w (blockOf b)):=by
 by_cases hs:b.length<512
 ·exact Block_short v b w h hs
 ·by_cases hh:(head512 b).2=0
  ·exact Block_ok v b w h hbl hs hh
  ·exact Block_head v b w h hs hh
end Go.Proofs.YtaffgndickdbiaaGreatDoor
namespace Go.Creel
open Go.RowKit
def OwnM (t : TypeId) (w : World) (B : Nat) (v : Value) (l : List UInt8) : Prop :=
 (v = .slice none 0 0/\l=[])\/∃ g cap cur lo hi,v = .slice (some ⟨g,0,none⟩) l.length cap/\B<=g/\w.heap[g]?=some (.cells cur t (lo,hi))/\(hi<=lo\/cur.size<=lo)/\l.length<=cap/\cap<=maxLen/\cur.size=cap/\cur.toList.take l.length=l.map byteV
theorem OwnM.nil (t : TypeId) (w : World) (B : Nat) : OwnM t w B (.slice none 0 0) [] := .inl ⟨rfl,rfl⟩
theorem OwnBs.marked {t : TypeId} {w : World} {B : Nat} {v : Value} {l : List UInt8} (h : OwnBs t w B v l) : OwnM t w B v l := by
 rcases h.2 with ⟨rfl,h0⟩|⟨g,cap,cur,rfl,hbg,hg,hnc,hcm,hcs,htake⟩
 ·exact .inl ⟨rfl,List.eq_nil_of_length_eq_zero h0⟩
 ·exact .inr ⟨g,cap,cur,0,0,rfl,hbg,hg,.inl (Nat.le_refl _),hnc,hcm,by simpa using hcs,by simpa using htake⟩
theorem toList_len (s : ByteArray) : s.data.toList.length = s.size := by simp
theorem OwnM.conv (w : World) (t : TypeId) (s : ByteArray) (h : s.size ≤ maxLen) : OwnM t (Lib.bytesWorld w t s) w.heap.size (.slice (some ⟨w.heap.size,0,none⟩) s.size (grownCap w s.size 0 t)) s.data.toList := by
 have hge:=grownCap_ge w s.size 0 t
 have hcs:(Lib.bytesCells w t s).size=grownCap w s.size 0 t:=by
  unfold Lib.bytesCells
  simp only [Array.size_append,Array.size_map,Array.size_replicate]
  have:s.data.size=s.size:=rfl
  omega
 refine .inr ⟨w.heap.size,_,_,_,_,by rw [toList_len],Nat.le_refl _,Lib.bytesWorld_at_new w t s,.inr (Nat.le_refl _),by rw [toList_len];exact hge,grownCap_le_maxLen w s.size 0 t h,hcs,?_⟩
 unfold Lib.bytesCells
 rw [Array.toList_append,Array.toList_map]
 rw [show s.data.toList.length=(s.data.toList.map fun b=>Value.int .u8 b.toNat).length by simp]
 exact List.take_left
theorem conv_below (w : World) (t : TypeId) (s : ByteArray) : Below w.heap.size w (Lib.bytesWorld w t s) :=
 ⟨rfl,rfl,rfl,by rw [Lib.bytesWorld_size];omega,fun k hk=>Lib.bytesWorld_at_old w t s k hk⟩
section
variable {t : TypeId} {w w' : World} {B B' : Nat} {v : Value} {l m : List UInt8}
theorem OwnM.below (h : OwnM t w B v l) (hb : Below w.heap.size w w') : OwnM t w' B v l := by
 rcases h with h|⟨g,cap,cur,lo,hi,h1,h2,h3,h4⟩
 ·exact .inl h
 ·exact .inr ⟨g,cap,cur,lo,hi,h1,h2,(hb.block g (Array.getElem?_eq_some_iff.1 h3).1).trans h3,h4⟩
theorem OwnM.mono (h : OwnM t w B v l) (hb : B' ≤ B) : OwnM t w B' v l := by
 rcases h with h|⟨g,cap,cur,lo,hi,h1,h2,h3⟩
 ·exact .inl h
 ·exact .inr ⟨g,cap,cur,lo,hi,h1,Nat.le_trans hb h2,h3⟩
theorem OwnM.lt (h : OwnM t w B v l) {k : Nat} (hk : v.ownBlock = some k) : B ≤ k ∧ k < w.heap.size := by
 rcases h with ⟨rfl,_⟩|⟨g,cap,cur,lo,hi,rfl,h2,h3,_⟩
 ·cases hk
 ·cases hk;exact ⟨h2,(Array.getElem?_eq_some_iff.1 h3).1⟩
theorem OwnM.form (h : OwnM t w B v l) : ∃ a cap,v = .slice a l.length cap ∧ cap ≤ maxLen := by
 rcases h with ⟨rfl,rfl⟩|⟨g,cap,cur,lo,hi,rfl,_,_,_,_,h6,_⟩
 ·exact ⟨none,0,rfl,by simp⟩
 ·exact ⟨_,cap,rfl,h6⟩
theorem OwnM.slice {N : Nat} (h : OwnM t w B v l) (hN : l.length ≤ N) : SliceC N 1 ByteC w [v] l := by
 rcases h with ⟨rfl,rfl⟩|⟨g,cap,cur,lo,hi,rfl,_,hg,_,hnc,hcm,hcs,htake⟩
 ·exact ⟨none,0,rfl,by simp,by simp,by simp,fun _=>rfl,fun h=>absurd h (by simp)⟩
 ·refine ⟨some ⟨g,0,none⟩,cap,rfl,hnc,hcm,hN,(fun h=>by cases h),fun _=>⟨g,0,rfl,fun i hi=>⟨[byteV l[i]],rfl,fun j hj=>?_,rfl⟩⟩⟩
  obtain rfl:j=0:=by omega
  simp only [Nat.zero_add,Nat.mul_one,Nat.add_zero]
  rw [cell_of_row w g i cur t _ hg]
  have e:=congrArg (fun x=>x[i]?) htake
  simp only [List.getElem?_take,hi,if_true,List.getElem?_map,List.getElem?_eq_getElem hi,Option.map_some] at e
  simpa using e
theorem heap_setCell_marked (w : World) (g i : Nat) (cs : Array Value) (t : TypeId) (fr : Nat × Nat) (v : Value) (hg : w.heap[g]? = some (.cells cs t fr)) :
 (w.setCell ⟨g,i,none⟩ v).heap[g]?=some (.cells (cs.setIfInBounds i v) t fr):=by
 simp [World.setCell,Array.getElem?_modify,hg]
theorem setCells_marked (g : Nat) {e : TypeId} {fr : Nat × Nat} : ∀ (vs : List Value) (o : Nat) (w : World) (cur : Array Value),w.heap[g]? = some (.cells cur e fr) → o + vs.length ≤ cur.size →
 ∃ cur':Array Value,(w.setCells g o vs).heap[g]?=some (.cells cur' e fr)/\cur'.size=cur.size/\cur'.toList.take (o+vs.length)=cur.toList.take o++vs
 | [],o,w,cur,h,_=>⟨cur,h,rfl,by simp⟩
 | v::r,o,w,cur,h,hl=>by
   have h1:=heap_setCell_marked w g o cur e fr v h
   obtain ⟨cur',a1,a2,a3⟩:=setCells_marked g r (o+1) (w.setCell ⟨g,o,none⟩ v) _ h1 (by simp at hl ⊢;omega)
   refine ⟨cur',a1,by simpa using a2,?_⟩
   have e1:o+(v::r).length=o+1+r.length:=by simp;omega
   rw [e1,a3]
   have ho:o<cur.toList.length:=by simp at hl ⊢;omega
   rw [Array.toList_setIfInBounds,List.take_succ_eq_append_getElem (by simpa using ho)]
   simp [List.take_set,List.getElem_set]
   exact List.set_eq_of_length_le (by simp;omega)
theorem src_str {P : Program} {w : World} {tx : TypeId} (hk : P.underlying tx = some .string) (s : ByteArray) : Src P 1 tx (.string s) s.data.toList.length (s.data.toList.map byteV) w := by
 rw [toList_len];exact Src.ofString w hk s
end
def AppM (P : Program) (w : World) (t tx ty : TypeId) (v x : Value) (B : Nat) (e : TypeId) (l m : List UInt8) : Prop :=
 ∃ v' w',(Builtin.append_ #[t,tx] ty #[v,x]).run P w = .ok v' w'/\OwnM e w' B v' (l++m)/\w.grownBy w' v.ownBlock
theorem app_m {P : Program} (w : World) (t tx e ty : TypeId) (i : TypeInfo) (ht : P.underlying t = some (.slice e)) (hi : P.info? e = some i) (hz : i.zero = some (.int .u8 0)) (h1 : i.size = 1) (hb : i.bytes = 1)
 {B:Nat} {v x:Value} {l m:List UInt8} (hv:OwnM e w B v l) (hs:Src P 1 tx x m.length (m.map byteV) w) (hbound:l.length+m.length<=140737488355328) (hB:B<=w.heap.size):AppM P w t tx ty v x B e l m:=by
 rcases hv with ⟨rfl,rfl⟩|⟨g,cap,cur,lo,hi',rfl,hbg,hg,hmk,hnc,hcm,hcs,htake⟩
 ·obtain ⟨v',w',a1,a2,a3,_⟩:=app_src w t tx ty B e i (.int .u8 0) 1 1 ht hi hz h1 hb rfl (by decide) (.slice none 0 0) x 0 m.length [] (m.map byteV) (World.ownsRow_nil w B e 1) hs (by unfold maxLen;simp at hbound;omega) (by simp at hbound;omega) hB
  exact ⟨v',w',a1,(OwnBs.app (l:=[]) (m:=m) (by simpa using a2)).marked,a3⟩
 ·by_cases hroom:l.length+m.length<=cap
  ·have hfz:∀ j,j<cur.size->w.frozen? ⟨g,j,none⟩=false:=by
    intro j hj
    simp only [World.frozen?,hg]
    rcases hmk with h|h
    ·simp;omega
    ·simp;omega
   have hr:=run_append_room_src (P:=P) w t tx ty e i ht hi g 0 l.length cap x m.length (m.map byteV) (by rw [h1];exact hs) hroom
    (fun j hj=>by rw [h1,cell_of_row w g _ cur e _ hg,Nat.zero_add,Array.getElem?_eq_getElem (by simp at hj;omega)];rfl) (fun j hj=>by rw [h1];exact hfz _ (by simp at hj;omega))
   rw [Nat.zero_add,h1,Nat.mul_one] at hr
   obtain ⟨cur',a1,a2,a3⟩:=setCells_marked g (m.map byteV) l.length w cur hg (by simp;omega)
   obtain ⟨m1,m2,m3,m4⟩:=setCells_meta g (m.map byteV) l.length w
   refine ⟨_,_,hr,.inr ⟨g,cap,cur',lo,hi',by rw [List.length_append],hbg,a1,by rw [a2];exact hmk,by rw [List.length_append];exact hroom,hcm,a2.trans hcs,?_⟩,⟨m1,m2,m3,by omega,fun k _ hk=>setCells_other g (m.map byteV) _ w k (fun e=>hk (by rw [e];rfl))⟩⟩
   rw [List.length_append,List.map_append,<-htake]
   simpa using a3
  ·have holds:∀ j u,(l.map byteV)[j]?=some u->w.drew.cell? ((⟨g,0,none⟩:Addr).add j)=some u:=by
    intro j u hu
    have hj:j<l.length:=by
     rcases Nat.lt_or_ge j l.length with h|h
     ·exact h
     ·rw [List.getElem?_eq_none (by simpa using h)] at hu;cases hu
    have ea:(⟨g,0,none⟩:Addr).add j=⟨g,j,none⟩:=by unfold Addr.add;split<;>simp_all
    rw [ea]
    show w.cell? ⟨g,j,none⟩=some u
    rw [cell_of_row w g j cur e _ hg,<-hu,<-htake]
    simp [List.getElem?_take,hj]
   have hold:=run_firstCells_some (P:=P) w.drew i.size l.length ⟨g,0,none⟩ l.length cap (l.map byteV) (by rw [h1];simp) holds
   have hr:=run_append_grow_src (P:=P) w t tx ty e i (.int .u8 0) ht hi hz (some ⟨g,0,none⟩) l.length cap (l.map byteV) hold x m.length (m.map byteV) (by rw [h1];exact hs) (by omega) (by omega) (growslice_fits (by omega) (by rw [hb];omega))
   have hgr:=own_grown w B e 1 l.length m.length cap (.int .u8 0) (l.map byteV) (m.map byteV) rfl (by simp) (by simp) (by unfold maxLen;omega) (by omega) hB (some g)
   exact ⟨_,_,hr,(OwnBs.app hgr.1).marked,hgr.2⟩
theorem wpList_appM {P : Program} {w : World} {ops : Array Oper} {rest : List Oper} {o : Oper} {a : Act} {Q : Exit → Act → World → Prop} (hgd : o.guard = none) (s x : Operand) (t tx : TypeId)
 (ho:o.op = .call { callee := .builtin .append,args := #[s,x],argTypes := #[t,tx] }) (vs vx:Value) (hs:a.eval s=vs) (hx:a.eval x=vx) {B:Nat} {e:TypeId} {l m:List UInt8}
 (happ:∀ ty,AppM P w t tx ty vs vx B e l m)
 (h:∀ v' w',OwnM e w' B v' (l++m)->w.grownBy w' vs.ownBlock->wpList P ops Q rest (a.put o.dst v') w'):wpList P ops Q (o::rest) a w:=by
 obtain ⟨v',w',hr,h1,h2⟩:=happ o.type
 exact Lib.wpList_append_run w hgd s x t tx ho vs vx hs hx v' w' hr (h v' w' h1 h2)
theorem step_appM {P : Program} {w : World} {ops : Array Oper} {o : Oper} {a : Act} {K : Act → World → Prop} {Q : Exit → Act → World → Prop} {E : Prop} (hgd : o.guard = none) (s x : Operand) (t tx : TypeId)
 (ho:o.op = .call { callee := .builtin .append,args := #[s,x],argTypes := #[t,tx] }) (vs vx:Value) (hs:a.eval s=vs) (hx:a.eval x=vx) {B:Nat} {e:TypeId} {l m:List UInt8}
 (happ:∀ ty,AppM P w t tx ty vs vx B e l m)
 (h:∀ v' w',OwnM e w' B v' (l++m)->w.grownBy w' vs.ownBlock->K (a.put o.dst v') w') :
 if Region.wanted o (yielded ops a.tmps)=true then Oper.wp P o a w K Q else E:=by
 obtain ⟨v',w',hr,h1,h2⟩:=happ o.type
 have hw:Region.wanted o (yielded ops a.tmps)=true:=by simp [Region.wanted,hgd]
 rw [if_pos hw]
 unfold Oper.wp execOp
 simp only [ho,resolve,invoke,builtin,Sem.run_bind,Sem.run_pure,Result.andThen_ok,List.map_toArray,List.map_cons,List.map_nil,hs,hx,hr]
 exact h v' w' h1 h2
theorem OwnM.grown {t : TypeId} {w0 w w' : World} {B C : Nat} {v : Value} {l : List UInt8} (hb : Below B w0 w) (hg : w.grownBy w' v.ownBlock) (hv : OwnM t w C v l) (hB : B ≤ w.heap.size) (hC : B ≤ C) : Below B w0 w' :=
 hb.grown hg hB (fun k hk=>Nat.le_trans hC (hv.lt hk).1)
open Go.RowKit
noncomputable def atoiV (s : ByteArray) : Int := match Lib.atoiAll s.data.toList with
 | .ok v=>v
 | .range=>Lib.atoiSat s.data.toList
 | _=>0
def ErrAt (w : World) (g : Nat) : Prop := ∃ ev,w.cell? ⟨g,0,none⟩ = some ev ∧ (ev = .nilIface ∨ ∃ te pe,ev = .iface te pe)
theorem ErrAt.below {w w' : World} {g : Nat} (h : ErrAt w g) (hb : Below w.heap.size w w') : ErrAt w' g := by
 obtain ⟨ev,h1,h2⟩:=h
 exact ⟨ev,(hb.cell (p:=⟨g,0,none⟩) (World.block_lt_of_cell? w _ h1)).trans h1,h2⟩
def textOf (l : List Rec) (key s : ByteArray) : ByteArray := if (recFind l key).2 = true then (recFind l key).1 else s
noncomputable def numOf (l : List Rec) (key : ByteArray) (n : Int) : Int := if (recFind l key).2 = true then atoiV (recFind l key).1 else n
end Go.Creel
namespace Go.Proofs.YtaffgndickdbiaaGreatDoor
open Go.Creel Go.RowKit
def ErrsOk (w : World) : Prop := ErrAt w 0 ∧ ErrAt w 1
theorem ErrsOk.below {w w' : World} (h : ErrsOk w) (hb : Below w.heap.size w w') : ErrsOk w' := ⟨h.1.below hb,h.2.below hb⟩
theorem Atoi_any (s : ByteArray) (w : World) (hs : s.size ≤ 140737488355328) (hE : ErrsOk w) :
 Calls Tryz.prog 57 #[.string s] w fun e w'=>(∃ ev,e = .returned (.tuple #[.int .i64 (atoiV s),ev]))/\Below w.heap.size w w':=by
 obtain ⟨⟨e0,h0,k0⟩,⟨e1,h1,k1⟩⟩:=hE
 unfold atoiV
 cases h:Lib.atoiAll s.data.toList with
 | ok v =>
   refine (Tryz.strconv_Atoi_ok s (by omega) v h w).mono ?_
   rintro e w' ⟨rfl,hw⟩
   refine ⟨⟨_,rfl⟩,?_⟩
   rcases hw with rfl|⟨t,rfl⟩
   ·exact Below.refl _ _
   ·exact conv_below w _ t
 | range =>
   refine (Tryz.strconv_Atoi_range s (by omega) h e1 w h1 k1).mono ?_
   rintro e w' ⟨N,rfl,_,_,hb⟩
   exact ⟨⟨_,rfl⟩,hb⟩
 | _ =>
   refine (Tryz.strconv_Atoi_syntax s (by omega) (fun v e=>by rw [h] at e;cases e) (fun e=>by rw [h] at e;cases e) e0 w h0 k0).mono ?_
   rintro e w' ⟨N,rfl,_,_,hb⟩
   exact ⟨⟨_,rfl⟩,hb⟩
set_option maxRecDepth 100000 in
theorem TextU_any (key s : ByteArray) (bl : Nat) (vl : Value) (l : List Rec) (w : World) (hc : w.cell? ⟨bl,0,none⟩ = some vl) (hS : SliceC maxLen 2 (RecC maxLen) w [vl] l) :
 Calls Tryz.prog 120 #[.string key,.string s,.pointer (some ⟨bl,0,none⟩)] w fun e w'=>e = .returned (.string (textOf l key s))/\Below w.heap.size w w':=by
 have HFN:=Lib.hid (Find_any (N:=maxLen) vl l key w hS)
 have HT:Hid (∀ p:ByteArray×Bool,recFind l key=p->textOf l key s=if p.2=true then p.1 else s):=Lib.hid (fun p h=>by subst h;rfl)
 have HT2:=Lib.hid (HT.out _ rfl)
 generalize recFind l key=p at *
 obtain ⟨p1,p2⟩:=p
 clear hS HT
 cases p2 with
 | true =>
   go_enter Tryz.func120,Tryz.ntmps120
   go_wp2_with fail
   refine HFN.out.mono ?_
   rintro e w1 ⟨rfl,hb⟩
   have HB:=Lib.hid hb
   clear hb
   go_wp2
   go_ret
   exact ⟨by rw [HT2.out];rfl,HB.out⟩
 | false =>
   go_enter Tryz.func120,Tryz.ntmps120
   go_wp2_with fail
   refine HFN.out.mono ?_
   rintro e w1 ⟨rfl,hb⟩
   have HB:=Lib.hid hb
   clear hb
   go_wp2
   go_ret
   exact ⟨by rw [HT2.out];rfl,HB.out⟩
set_option maxRecDepth 100000 in
theorem NumU_any (key : ByteArray) (n : Int) (bl : Nat) (vl : Value) (l : List Rec) (w : World) (hc : w.cell? ⟨bl,0,none⟩ = some vl) (hS : SliceC maxLen 2 (RecC maxLen) w [vl] l) (hE : ErrsOk w) (hsz : (recFind l key).1.size ≤ 140737488355328) :
 Calls Tryz.prog 122 #[.string key,.int .i64 n,.pointer (some ⟨bl,0,none⟩)] w fun e w'=>e = .returned (.int .i64 (numOf l key n))/\Below w.heap.size w w':=by
 have HFN:=Lib.hid (Find_any (N:=maxLen) vl l key w hS)
 have HE:=Lib.hid hE
 have HT:Hid (∀ p:ByteArray×Bool,recFind l key=p->numOf l key n=if p.2=true then atoiV p.1 else n):=Lib.hid (fun p h=>by subst h;rfl)
 have HT2:=Lib.hid (HT.out _ rfl)
 generalize recFind l key=p at *
 obtain ⟨p1,p2⟩:=p
 simp only at hsz
 clear hS HT hE
 cases p2 with
 | true =>
   go_enter Tryz.func122,Tryz.ntmps122
   go_wp2_with fail
   refine HFN.out.mono ?_
   rintro e w1 ⟨rfl,hb⟩
   have HB:=Lib.hid hb
   clear hb
   go_wp2_with fail
   refine (Atoi_any p1 _ hsz (HE.out.below HB.out)).mono ?_
   rintro e w2 ⟨⟨ev,rfl⟩,hb⟩
   have HB2:=Lib.hid (HB.out.trans (hb.mono HB.out.size))
   clear hb
   go_wp2
   go_ret
   exact ⟨by rw [HT2.out];rfl,HB2.out⟩
 | false =>
   go_enter Tryz.func122,Tryz.ntmps122
   go_wp2_with fail
   refine HFN.out.mono ?_
   rintro e w1 ⟨rfl,hb⟩
   have HB:=Lib.hid hb
   clear hb
   go_wp2
   go_ret
   exact ⟨by rw [HT2.out];rfl,HB.out⟩
end Go.Proofs.YtaffgndickdbiaaGreatDoor
namespace Go.Creel
open Go.RowKit
def kindOfT (c : UInt8) : Int := if c = 48 then 1 else if c = 53 then 2 else if c = 50 then 3 else if c = 49 then 4 else 0
noncomputable def timeR (l : List Rec) (t : Int) : Int × Int :=
 if (recFind l kMtime).2=true then ((timeAns (recFind l kMtime).1.data.toList (rawP (recFind l kMtime).1.data.toList)).1,(timeAns (recFind l kMtime).1.data.toList (rawP (recFind l kMtime).1.data.toList)).2.1) else (t,0)
noncomputable def unpackOf (h : HeadN) (l : List Rec) (da : Option Addr) (dcap : Nat) (d : List UInt8) : Ent :=
 ⟨textOf l kPath (cutOne h.px h.nm).1,kindOfT h.typ,textOf l kLink h.lk,⟨h.mode,numOf l kUid h.uid,numOf l kGid h.gid,textOf l kUname h.user,textOf l kGname h.group,(timeR l h.time).1,(timeR l h.time).2⟩,da,dcap,d⟩
theorem recFind_small {N : Nat} : ∀ {l : List Rec} (key : ByteArray),(∀ r ∈ l,r.key.size ≤ N ∧ r.value.size ≤ N) → (recFind l key).1.size ≤ N
 | [],key,_=>by simp [recFind]
 | r::t,key,h=>by
   unfold recFind
   split
   ·exact (h r (by simp)).2
   ·exact recFind_small key (fun x hx=>h x (by simp [hx]))
theorem memBytes_place (h : HeadN) (l : List Rec) (da da' : Option Addr) (dcap dcap' : Nat) (d : List UInt8) : memBytes (unpackOf h l da dcap d) = memBytes (unpackOf h l da' dcap' d) := rfl
def entNone : Ent := ⟨ByteArray.empty,0,ByteArray.empty,⟨0,0,0,ByteArray.empty,ByteArray.empty,0,0⟩,none,0,[]⟩
open Classical in
noncomputable def memEnd (b : List UInt8) (n : Nat) (h : HeadN) (l : List Rec) (d : List UInt8) : Ent × Int × Int :=
 if memBytes (unpackOf h l none 0 d)=(b.take n,0) then (unpackOf h l none 0 d,n,0) else (entNone,0,3)
noncomputable def memOf (b : List UInt8) : Ent × Int × Int :=
 if ¬ (blockOf b).2.2.2=0 then (entNone,0,(blockOf b).2.2.2)
 else if ¬ (blockOf b).1.typ=120 then memEnd b (b.length-(blockOf b).2.2.1.length) (blockOf b).1 [] (blockOf b).2.1
 else if ¬ (paxOf (ofL (blockOf b).2.1)).2=0 then (entNone,0,(paxOf (ofL (blockOf b).2.1)).2)
 else if ¬ (blockOf (blockOf b).2.2.1).2.2.2=0 then (entNone,0,(blockOf (blockOf b).2.2.1).2.2.2)
 else memEnd b (b.length-(blockOf (blockOf b).2.2.1).2.2.1.length) (blockOf (blockOf b).2.2.1).1 (paxOf (ofL (blockOf b).2.1)).1 (blockOf (blockOf b).2.2.1).2.1
end Go.Creel
