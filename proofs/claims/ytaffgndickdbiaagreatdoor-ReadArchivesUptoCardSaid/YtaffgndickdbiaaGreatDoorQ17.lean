/-
  Texts: Unpack.
-/
import Derived.Test.YtaffgndickdbiaaGreatDoorQ16
set_option linter.unusedVariables false
set_option linter.unusedSimpArgs false
set_option linter.unusedSectionVars false
namespace Go.Creel
open Go.RowKit
theorem results_cell1 {fn : Func} {p : Tmp} {ty : TypeId} (h : fn.results = #[.cell p ty]) (tmps : Array Value) (P : Program) (w : World) :
 (results fn tmps).run P w=((asAddr (tmps.getD p undef)).run P w).andThen fun a w₁=>(loadVar ty a).run P w₁:=by
 simp only [results,h]
 simp [Sem.run_bind,Result.andThen]
end Go.Creel
namespace Go.Proofs.YtaffgndickdbiaaGreatDoor
open Go.Creel Go.RowKit
set_option maxRecDepth 100000 in
set_option maxHeartbeats 3000000 in
theorem Unpack_any (h : HeadN) (vl : Value) (l : List Rec) (da : Option Addr) (dn dcap : Nat) (d : List UInt8) (w : World) (hok : h.Ok maxLen) (hS : SliceC maxLen 2 (RecC maxLen) w [vl] l) (hl : ∀ r ∈ l,r.key.size ≤ 1048576 ∧ r.value.size ≤ 1048576) (hdn : dn = d.length) (hE : ErrsOk w) (hT : Pow10 w) :
 Calls Tryz.prog 52 #[HeadN.val' h,vl,.slice da dn dcap] w fun e w'=>e = .returned (Ent.val (unpackOf h l da dcap d))/\Below w.heap.size w w':=by
 obtain ⟨al,cl,hvl⟩:∃ a c,vl = .slice a l.length c:=by
  obtain ⟨a,c,hv,_⟩:=hS
  exact ⟨a,c,by simpa using hv⟩
 subst hvl
 have HBH:=Lib.hid ((Below.refl w.heap.size w).alloc (Nat.le_refl _) (.cells #[.string h.nm,.string h.px,.string h.lk,.int .i64 h.mode,.int .i64 h.uid,.int .i64 h.gid,.int .i64 h.size,.int .i64 h.time,.int .u8 h.typ.toNat,.string h.user,.string h.group] 62))
 have HBL:=Lib.hid (HBH.out.alloc HBH.out.size (.cells #[.slice al l.length cl] 63))
 have HBZ:=Lib.hid (HBL.out.alloc HBL.out.size (.cells #[.string ⟨#[]⟩,.int .i64 0,.string ⟨#[]⟩,.int .i64 0,.int .i64 0,.int .i64 0,.string ⟨#[]⟩,.string ⟨#[]⟩,.int .i64 0,.int .i64 0,.slice none 0 0] 26))
 have HSM:=Lib.hid (fun key=>recFind_small (N:=1048576) (l:=l) key hl)
 have HROW:Hid ((((w.alloc (.cells #[.string h.nm,.string h.px,.string h.lk,.int .i64 h.mode,.int .i64 h.uid,.int .i64 h.gid,.int .i64 h.size,.int .i64 h.time,.int .u8 h.typ.toNat,.string h.user,.string h.group] 62)).alloc (.cells #[.slice al l.length cl] 63)).alloc (.cells #[.string ⟨#[]⟩,.int .i64 0,.string ⟨#[]⟩,.int .i64 0,.int .i64 0,.int .i64 0,.string ⟨#[]⟩,.string ⟨#[]⟩,.int .i64 0,.int .i64 0,.slice none 0 0] 26)).heap[w.heap.size]?=some (.cells #[.string h.nm,.string h.px,.string h.lk,.int .i64 h.mode,.int .i64 h.uid,.int .i64 h.gid,.int .i64 h.size,.int .i64 h.time,.int .u8 h.typ.toNat,.string h.user,.string h.group] 62 (0,0))):=Lib.hid (by rw [heap_alloc_old _ _ (by simp;omega)];exact heap_alloc2_old _ _ _)
 have HLROW:Hid ((((w.alloc (.cells #[.string h.nm,.string h.px,.string h.lk,.int .i64 h.mode,.int .i64 h.uid,.int .i64 h.gid,.int .i64 h.size,.int .i64 h.time,.int .u8 h.typ.toNat,.string h.user,.string h.group] 62)).alloc (.cells #[.slice al l.length cl] 63)).alloc (.cells #[.string ⟨#[]⟩,.int .i64 0,.string ⟨#[]⟩,.int .i64 0,.int .i64 0,.int .i64 0,.string ⟨#[]⟩,.string ⟨#[]⟩,.int .i64 0,.int .i64 0,.slice none 0 0] 26)).heap[w.heap.size+1]?=some (.cells #[.slice al l.length cl] 63 (0,0))):=Lib.hid (by rw [heap_alloc_old _ _ (by simp)];exact heap_alloc2_new _ _ _)
 have HZROW:Hid ((((w.alloc (.cells #[.string h.nm,.string h.px,.string h.lk,.int .i64 h.mode,.int .i64 h.uid,.int .i64 h.gid,.int .i64 h.size,.int .i64 h.time,.int .u8 h.typ.toNat,.string h.user,.string h.group] 62)).alloc (.cells #[.slice al l.length cl] 63)).alloc (.cells #[.string ⟨#[]⟩,.int .i64 0,.string ⟨#[]⟩,.int .i64 0,.int .i64 0,.int .i64 0,.string ⟨#[]⟩,.string ⟨#[]⟩,.int .i64 0,.int .i64 0,.slice none 0 0] 26)).heap[w.heap.size+2]?=some (.cells #[.string ⟨#[]⟩,.int .i64 0,.string ⟨#[]⟩,.int .i64 0,.int .i64 0,.int .i64 0,.string ⟨#[]⟩,.string ⟨#[]⟩,.int .i64 0,.int .i64 0,.slice none 0 0] 26 (0,0))):=Lib.hid (by rw [show w.heap.size+2=((w.alloc (.cells #[.string h.nm,.string h.px,.string h.lk,.int .i64 h.mode,.int .i64 h.uid,.int .i64 h.gid,.int .i64 h.size,.int .i64 h.time,.int .u8 h.typ.toNat,.string h.user,.string h.group] 62)).alloc (.cells #[.slice al l.length cl] 63)).heap.size by simp];exact heap_alloc_new _ _)
 have HT:=Lib.hid hT
 have HSL:=Lib.hid (fun W (hb:Below w.heap.size w W)=>hS.below (w':=W) (fun _ _ h=>h) hb)
 have HEE:=Lib.hid (fun W (hb:Below w.heap.size w W)=>ErrsOk.below (w':=W) hE hb)
 subst hdn
 have HOK:=Lib.hid (And.intro hok.px hok.nm)
 clear hS hE hl hT hok
 go_enter Tryz.func52,Tryz.ntmps52
 go_upto_region 3 with fail
 generalize ((w.alloc (.cells #[.string h.nm,.string h.px,.string h.lk,.int .i64 h.mode,.int .i64 h.uid,.int .i64 h.gid,.int .i64 h.size,.int .i64 h.time,.int .u8 h.typ.toNat,.string h.user,.string h.group] 62)).alloc (.cells #[.slice al l.length cl] 63)).alloc (.cells #[.string ⟨#[]⟩,.int .i64 0,.string ⟨#[]⟩,.int .i64 0,.int .i64 0,.int .i64 0,.string ⟨#[]⟩,.string ⟨#[]⟩,.int .i64 0,.int .i64 0,.slice none 0 0] 26)=w1 at *
 have hlb:=(Array.getElem?_eq_some_iff.1 HLROW.out).1
 have hhb:=(Array.getElem?_eq_some_iff.1 HROW.out).1
 have HST:=Lib.hid (fun w' (hB:Below w1.heap.size w1 w')=>show w'.cell? ⟨w.heap.size,3,none⟩=some (.int .i64 h.mode)/\w'.cell? ⟨w.heap.size,4,none⟩=some (.int .i64 h.uid)/\w'.cell? ⟨w.heap.size,5,none⟩=some (.int .i64 h.gid)/\w'.cell? ⟨w.heap.size,7,none⟩=some (.int .i64 h.time)/\w'.cell? ⟨w.heap.size,9,none⟩=some (.string h.user)/\w'.cell? ⟨w.heap.size,10,none⟩=some (.string h.group)/\Below w1.heap.size w1 w' from ⟨
  cellAt ((hB.block _ hhb).trans HROW.out) rfl,cellAt ((hB.block _ hhb).trans HROW.out) rfl,cellAt ((hB.block _ hhb).trans HROW.out) rfl,cellAt ((hB.block _ hhb).trans HROW.out) rfl,cellAt ((hB.block _ hhb).trans HROW.out) rfl,cellAt ((hB.block _ hhb).trans HROW.out) rfl,hB⟩)
 have HTXT:=Lib.hid (fun key s W (hB:Below w1.heap.size w1 W)=>show Calls Tryz.prog 120 #[.string key,.string s,.pointer (some ⟨w.heap.size+1,0,none⟩)] W (fun e w'=>(e = .returned (.string (textOf l key s))/\w'.cell? ⟨w.heap.size,3,none⟩=some (.int .i64 h.mode)/\w'.cell? ⟨w.heap.size,4,none⟩=some (.int .i64 h.uid)/\w'.cell? ⟨w.heap.size,5,none⟩=some (.int .i64 h.gid)/\w'.cell? ⟨w.heap.size,7,none⟩=some (.int .i64 h.time)/\w'.cell? ⟨w.heap.size,9,none⟩=some (.string h.user)/\w'.cell? ⟨w.heap.size,10,none⟩=some (.string h.group)/\Below w1.heap.size w1 w')/\Below W.heap.size W w') from
  (TextU_any key s _ (.slice al l.length cl) l W (cellAt ((hB.block _ hlb).trans HLROW.out) rfl) (HSL.out W (HBZ.out.trans (hB.mono HBZ.out.size)))).mono fun e w' hh=>⟨⟨hh.1,HST.out w' (hB.trans (hh.2.mono hB.size))⟩,hh.2⟩)
 have HNUM:=Lib.hid (fun key n W (hB:Below w1.heap.size w1 W)=>show Calls Tryz.prog 122 #[.string key,.int .i64 n,.pointer (some ⟨w.heap.size+1,0,none⟩)] W (fun e w'=>(e = .returned (.int .i64 (numOf l key n))/\w'.cell? ⟨w.heap.size,3,none⟩=some (.int .i64 h.mode)/\w'.cell? ⟨w.heap.size,4,none⟩=some (.int .i64 h.uid)/\w'.cell? ⟨w.heap.size,5,none⟩=some (.int .i64 h.gid)/\w'.cell? ⟨w.heap.size,7,none⟩=some (.int .i64 h.time)/\w'.cell? ⟨w.heap.size,9,none⟩=some (.string h.user)/\w'.cell? ⟨w.heap.size,10,none⟩=some (.string h.group)/\Below w1.heap.size w1 w')/\Below W.heap.size W w') from
  (NumU_any key n _ (.slice al l.length cl) l W (cellAt ((hB.block _ hlb).trans HLROW.out) rfl) (HSL.out W (HBZ.out.trans (hB.mono HBZ.out.size))) (HEE.out W (HBZ.out.trans (hB.mono HBZ.out.size))) (Nat.le_trans (HSM.out key) (by decide))).mono fun e w' hh=>⟨⟨hh.1,HST.out w' (hB.trans (hh.2.mono hB.size))⟩,hh.2⟩)
 have hdr:=(Below.refl w1.heap.size w1).drew
 have c3:w1.cell? ⟨w.heap.size,3,none⟩=some (.int .i64 h.mode):=cellAt HROW.out rfl
 have c4:w1.cell? ⟨w.heap.size,4,none⟩=some (.int .i64 h.uid):=cellAt HROW.out rfl
 have c5:w1.cell? ⟨w.heap.size,5,none⟩=some (.int .i64 h.gid):=cellAt HROW.out rfl
 have c7:w1.cell? ⟨w.heap.size,7,none⟩=some (.int .i64 h.time):=cellAt HROW.out rfl
 have c9:w1.cell? ⟨w.heap.size,9,none⟩=some (.string h.user):=cellAt HROW.out rfl
 have c10:w1.cell? ⟨w.heap.size,10,none⟩=some (.string h.group):=cellAt HROW.out rfl
 have HMV:Hid (∀ a b c d:Value,True):=Lib.hid (fun _ _ _ _=>trivial)
 go_cut [9] from 17 to 37 (fun u9 wy=>∃ bm,u9 = .pointer (some ⟨bm,0,none⟩)/\Hid (w1.heap.size<=bm)/\Hid (wy.heap[bm]?=some (.cells #[.int .i64 h.mode,.int .i64 (numOf l kUid h.uid),.int .i64 (numOf l kGid h.gid),.string (textOf l kUname h.user),.string (textOf l kGname h.group),.int .i64 h.time,.int .i64 0] 23 (0,0)))/\Hid (Below w1.heap.size w1 wy))
 case first =>
  refine wp_region_noPanic ?_
  refine wp_region_held_drew (S:=fun w'=>w'.cell? ⟨w.heap.size,3,none⟩=some (.int .i64 h.mode)/\w'.cell? ⟨w.heap.size,4,none⟩=some (.int .i64 h.uid)/\w'.cell? ⟨w.heap.size,5,none⟩=some (.int .i64 h.gid)/\w'.cell? ⟨w.heap.size,7,none⟩=some (.int .i64 h.time)/\w'.cell? ⟨w.heap.size,9,none⟩=some (.string h.user)/\w'.cell? ⟨w.heap.size,10,none⟩=some (.string h.group)/\Below w1.heap.size w1 w') (by kernel_rfl) (by go_keep) (fun hHeld=>?_)
  refine wpAnyH_take (i:=0) (v:=_) rfl (by kernel_rfl) (by kernel_rfl) (by kernel_rfl) (fun _ _ _ h=>h) (Or.inl ⟨by rfl,fun w5 hSw=>(by (try dsimp only at hSw);go_simp;try with_reducible rfl)⟩) hHeld ?_
  try simp only [List.getElem_toArray,List.getElem_cons_succ,List.getElem_cons_zero,Act.put,List.setIfInBounds_toArray,List.set_cons_zero,List.set_cons_succ]
  refine wpAnyH_take (i:=1) (v:=_) rfl (by kernel_rfl) (by kernel_rfl) (by kernel_rfl) (fun _ _ _ h=>h) (Or.inl ⟨by rfl,fun w5 hSw=>(by (try dsimp only at hSw);go_simp;try with_reducible rfl)⟩) hHeld ?_
  try simp only [List.getElem_toArray,List.getElem_cons_succ,List.getElem_cons_zero,Act.put,List.setIfInBounds_toArray,List.set_cons_zero,List.set_cons_succ]
  refine wpAnyH_take (i:=2) (v:=_) rfl (by kernel_rfl) (by kernel_rfl) (by kernel_rfl) (fun _ _ _ h=>h) (Or.inl ⟨by rfl,fun w5 hSw=>(by (try dsimp only at hSw);go_simp;try with_reducible rfl)⟩) hHeld ?_
  try simp only [List.getElem_toArray,List.getElem_cons_succ,List.getElem_cons_zero,Act.put,List.setIfInBounds_toArray,List.set_cons_zero,List.set_cons_succ]
  refine wpAnyH_take (i:=3) (v:=_) rfl (by kernel_rfl) (by kernel_rfl) (by kernel_rfl) (fun _ _ _ h=>h) (Or.inl ⟨by rfl,fun w5 hSw=>(by (try dsimp only at hSw);go_simp;try with_reducible rfl)⟩) hHeld ?_
  try simp only [List.getElem_toArray,List.getElem_cons_succ,List.getElem_cons_zero,Act.put,List.setIfInBounds_toArray,List.set_cons_zero,List.set_cons_succ]
  refine wpAnyH_take (i:=4) (v:=_) rfl (by kernel_rfl) (by kernel_rfl) (by kernel_rfl) (fun _ _ _ h=>h) (Or.inl ⟨by rfl,fun w5 hSw=>(by (try dsimp only at hSw);go_simp;try with_reducible rfl)⟩) hHeld ?_
  try simp only [List.getElem_toArray,List.getElem_cons_succ,List.getElem_cons_zero,Act.put,List.setIfInBounds_toArray,List.set_cons_zero,List.set_cons_succ]
  refine wpAnyH_take (i:=6) (v:=_) rfl (by kernel_rfl) (by kernel_rfl) (by kernel_rfl) (fun _ _ _ h=>h) (Or.inl ⟨by rfl,fun w5 hSw=>(by (try dsimp only at hSw);go_simp;try with_reducible rfl)⟩) hHeld ?_
  try simp only [List.getElem_toArray,List.getElem_cons_succ,List.getElem_cons_zero,Act.put,List.setIfInBounds_toArray,List.set_cons_zero,List.set_cons_succ]
  refine wpAnyH_take (i:=7) (v:=_) rfl (by kernel_rfl) (by kernel_rfl) (by kernel_rfl) (fun _ _ _ h=>h) (Or.inl ⟨by rfl,fun w5 hSw=>(by (try dsimp only at hSw);go_simp;try with_reducible rfl)⟩) hHeld ?_
  try simp only [List.getElem_toArray,List.getElem_cons_succ,List.getElem_cons_zero,Act.put,List.setIfInBounds_toArray,List.set_cons_zero,List.set_cons_succ]
  refine wpAnyH_take (i:=8) (v:=_) rfl (by kernel_rfl) (by kernel_rfl) (by kernel_rfl) (fun _ _ _ h=>h) (Or.inl ⟨by rfl,fun w5 hSw=>(by (try dsimp only at hSw);go_simp;try with_reducible rfl)⟩) hHeld ?_
  try simp only [List.getElem_toArray,List.getElem_cons_succ,List.getElem_cons_zero,Act.put,List.setIfInBounds_toArray,List.set_cons_zero,List.set_cons_succ]
  refine wpAnyH_take (i:=10) (v:=_) rfl (by kernel_rfl) (by kernel_rfl) (by kernel_rfl) (fun _ _ _ h=>h) (Or.inl ⟨by rfl,fun w5 hSw=>(by (try dsimp only at hSw);go_simp;try with_reducible rfl)⟩) hHeld ?_
  try simp only [List.getElem_toArray,List.getElem_cons_succ,List.getElem_cons_zero,Act.put,List.setIfInBounds_toArray,List.set_cons_zero,List.set_cons_succ]
  refine wpAnyH_take (i:=11) (v:=_) rfl (by kernel_rfl) (by kernel_rfl) (by kernel_rfl) (fun _ _ _ h=>h) (Or.inl ⟨by rfl,fun w5 hSw=>(by (try dsimp only at hSw);go_simp;try with_reducible rfl)⟩) hHeld ?_
  try simp only [List.getElem_toArray,List.getElem_cons_succ,List.getElem_cons_zero,Act.put,List.setIfInBounds_toArray,List.set_cons_zero,List.set_cons_succ]
  refine wpAnyH_take (i:=12) (v:=_) rfl (by kernel_rfl) (by kernel_rfl) (by kernel_rfl) (fun _ _ _ h=>h) (Or.inl ⟨by rfl,fun w5 hSw=>(by (try dsimp only at hSw);go_simp;try with_reducible rfl)⟩) hHeld ?_
  try simp only [List.getElem_toArray,List.getElem_cons_succ,List.getElem_cons_zero,Act.put,List.setIfInBounds_toArray,List.set_cons_zero,List.set_cons_succ]
  refine wpAnyH_take (i:=14) (v:=_) rfl (by kernel_rfl) (by kernel_rfl) (by kernel_rfl) (fun _ _ _ h=>h) (Or.inl ⟨by rfl,fun w5 hSw=>(by (try dsimp only at hSw);go_simp;try with_reducible rfl)⟩) hHeld ?_
  try simp only [List.getElem_toArray,List.getElem_cons_succ,List.getElem_cons_zero,Act.put,List.setIfInBounds_toArray,List.set_cons_zero,List.set_cons_succ]
  refine wpAnyH_take (i:=15) (v:=_) rfl (by kernel_rfl) (by kernel_rfl) (by kernel_rfl) (fun _ _ _ h=>h) (Or.inl ⟨by rfl,fun w5 hSw=>(by (try dsimp only at hSw);go_simp;try with_reducible rfl)⟩) hHeld ?_
  try simp only [List.getElem_toArray,List.getElem_cons_succ,List.getElem_cons_zero,Act.put,List.setIfInBounds_toArray,List.set_cons_zero,List.set_cons_succ]
  refine wpAnyH_take (i:=16) (v:=_) rfl (by kernel_rfl) (by kernel_rfl) (by kernel_rfl) (fun _ _ _ h=>h) (Or.inl ⟨by rfl,fun w5 hSw=>(by (try dsimp only at hSw);go_simp;try with_reducible rfl)⟩) hHeld ?_
  try simp only [List.getElem_toArray,List.getElem_cons_succ,List.getElem_cons_zero,Act.put,List.setIfInBounds_toArray,List.set_cons_zero,List.set_cons_succ]
  refine wpAnyH_take (i:=18) (v:=_) rfl (by kernel_rfl) (by kernel_rfl) (by kernel_rfl) (fun _ _ _ h=>h) (Or.inl ⟨by rfl,fun w5 hSw=>(by (try dsimp only at hSw);go_simp;try with_reducible rfl)⟩) hHeld ?_
  try simp only [List.getElem_toArray,List.getElem_cons_succ,List.getElem_cons_zero,Act.put,List.setIfInBounds_toArray,List.set_cons_zero,List.set_cons_succ]
  refine wpAnyH_take (i:=19) (v:=_) rfl (by kernel_rfl) (by kernel_rfl) (by kernel_rfl) (fun _ _ _ h=>h) (Or.inl ⟨by rfl,fun w5 hSw=>(by (try dsimp only at hSw);go_simp;try with_reducible rfl)⟩) hHeld ?_
  try simp only [List.getElem_toArray,List.getElem_cons_succ,List.getElem_cons_zero,Act.put,List.setIfInBounds_toArray,List.set_cons_zero,List.set_cons_succ]
  refine wpAnyH_ready (rs:=[5,21]) (by kernel_rfl) (by simp) ?_
  refine AllReadyH.cons rfl (fun K5 hK5=>?_) (AllReadyH.cons rfl (fun K5 hK5=>?_) AllReadyH.nil)
  ·rw [if_pos (by rfl)]
   go_wp2_with (go_at_call 122;refine (HNUM.out _ _ _ hdr).mono ?_;rintro e x1 ⟨⟨rfl,q3,q4,q5,q7,q9,q10,hb1⟩,hbb1⟩)
   refine hK5.out _ _ (⟨q3,q4,q5,q7,q9,q10,hb1⟩) (fun hH1=>?_)
   clear hK5 K5
   try simp only [List.getElem_toArray,List.getElem_cons_succ,List.getElem_cons_zero,Act.put,List.setIfInBounds_toArray,List.set_cons_zero,List.set_cons_succ]
   refine wpAnyH_ready (rs:=[9,21]) (by kernel_rfl) (by simp) ?_
   refine AllReadyH.cons rfl (fun K5 hK5=>?_) (AllReadyH.cons rfl (fun K5 hK5=>?_) AllReadyH.nil)
   ·rw [if_pos (by rfl)]
    go_wp2_with (go_at_call 122;refine (HNUM.out _ _ _ hb1).mono ?_;rintro e x2 ⟨⟨rfl,q3,q4,q5,q7,q9,q10,hb2⟩,hbb2⟩)
    refine hK5.out _ _ (⟨q3,q4,q5,q7,q9,q10,hb2⟩) (fun hH2=>?_)
    clear hK5 K5
    try simp only [List.getElem_toArray,List.getElem_cons_succ,List.getElem_cons_zero,Act.put,List.setIfInBounds_toArray,List.set_cons_zero,List.set_cons_succ]
    refine wpAnyH_ready (rs:=[13,21]) (by kernel_rfl) (by simp) ?_
    refine AllReadyH.cons rfl (fun K5 hK5=>?_) (AllReadyH.cons rfl (fun K5 hK5=>?_) AllReadyH.nil)
    ·rw [if_pos (by rfl)]
     go_wp2_with (go_at_call 120;refine (HTXT.out _ _ _ hb2).mono ?_;rintro e x3 ⟨⟨rfl,q3,q4,q5,q7,q9,q10,hb3⟩,hbb3⟩)
     refine hK5.out _ _ (⟨q3,q4,q5,q7,q9,q10,hb3⟩) (fun hH3=>?_)
     clear hK5 K5
     try simp only [List.getElem_toArray,List.getElem_cons_succ,List.getElem_cons_zero,Act.put,List.setIfInBounds_toArray,List.set_cons_zero,List.set_cons_succ]
     refine wpAnyH_ready (rs:=[17,21]) (by kernel_rfl) (by simp) ?_
     refine AllReadyH.cons rfl (fun K5 hK5=>?_) (AllReadyH.cons rfl (fun K5 hK5=>?_) AllReadyH.nil)
     ·rw [if_pos (by rfl)]
      go_wp2_with (go_at_call 120;refine (HTXT.out _ _ _ hb3).mono ?_;rintro e x4 ⟨⟨rfl,q3,q4,q5,q7,q9,q10,hb4⟩,hbb4⟩)
      refine hK5.out _ _ (⟨q3,q4,q5,q7,q9,q10,hb4⟩) (fun hH4=>?_)
      clear hK5 K5
      try simp only [List.getElem_toArray,List.getElem_cons_succ,List.getElem_cons_zero,Act.put,List.setIfInBounds_toArray,List.set_cons_zero,List.set_cons_succ]
      refine wpAnyH_take (i:=20) (v:=_) rfl (by kernel_rfl) (by kernel_rfl) (by kernel_rfl) (fun _ _ _ h=>h) (Or.inl ⟨by rfl,fun w5 hSw=>(by (try dsimp only at hSw);go_simp;try with_reducible rfl)⟩) hH4 ?_
      try simp only [List.getElem_toArray,List.getElem_cons_succ,List.getElem_cons_zero,Act.put,List.setIfInBounds_toArray,List.set_cons_zero,List.set_cons_succ]
      refine wpAnyH_ready (rs:=[21]) (by kernel_rfl) (by simp) ?_
      refine AllReadyH.cons rfl (fun K5 hK5=>?_) AllReadyH.nil
      go_simp
      have hb5:=hb4.alloc hb4.size (.cells #[.int .i64 0,.int .i64 0,.int .i64 0,.string ⟨#[]⟩,.string ⟨#[]⟩,.int .i64 0,.int .i64 0] 23)
      refine hK5.out _ _ (HST.out _ hb5) (fun hH5=>?_)
      clear hK5 K5
      try simp only [List.getElem_toArray,List.getElem_cons_succ,List.getElem_cons_zero,Act.put,List.setIfInBounds_toArray,List.set_cons_zero,List.set_cons_succ]
      refine wpAnyH_ready (rs:=[22]) (by kernel_rfl) (by simp) ?_
      refine AllReadyH.cons rfl (fun K5 hK5=>?_) AllReadyH.nil
      go_simp
      have hc5:=hb4.alloc hb4.size (.cells #[.int .i64 h.mode,.int .i64 (numOf l kUid h.uid),.int .i64 (numOf l kGid h.gid),.string (textOf l kUname h.user),.string (textOf l kGname h.group),.int .i64 h.time,.int .i64 0] 23)
      refine hK5.out _ _ (HST.out _ hc5) (fun hG5=>?_)
      clear hK5 K5
      try simp only [List.getElem_toArray,List.getElem_cons_succ,List.getElem_cons_zero,Act.put,List.setIfInBounds_toArray,List.set_cons_zero,List.set_cons_succ]
      refine wpAnyH_done (by kernel_rfl) ?_ _
      refine NoPanic.normal ?_
      go_wp2_with fail
      go_meet
      case rel=>exact ⟨x4.heap.size,rfl,Lib.hid (hb4.size),Lib.hid (heap_alloc_new _ _),Lib.hid (hc5)⟩
     ·go_simp
      have hb6:=hb3.alloc hb3.size (.cells #[.int .i64 0,.int .i64 0,.int .i64 0,.string ⟨#[]⟩,.string ⟨#[]⟩,.int .i64 0,.int .i64 0] 23)
      have hrow6:(x3.alloc (.cells #[.int .i64 0,.int .i64 0,.int .i64 0,.string ⟨#[]⟩,.string ⟨#[]⟩,.int .i64 0,.int .i64 0] 23)).heap[x3.heap.size]?=some (.cells #[.int .i64 0,.int .i64 0,.int .i64 0,.string ⟨#[]⟩,.string ⟨#[]⟩,.int .i64 0,.int .i64 0] 23 (0,0)):=heap_alloc_new _ _
      have hle6:w1.heap.size<=x3.heap.size:=hb3.size
      refine hK5.out _ _ (HST.out _ hb6) (fun hH6=>?_)
      clear hK5 K5
      try simp only [List.getElem_toArray,List.getElem_cons_succ,List.getElem_cons_zero,Act.put,List.setIfInBounds_toArray,List.set_cons_zero,List.set_cons_succ]
      refine wpAnyH_ready (rs:=[17]) (by kernel_rfl) (by simp) ?_
      refine AllReadyH.cons rfl (fun K5 hK5=>?_) AllReadyH.nil
      rw [if_pos (by rfl)]
      go_wp2_with (go_at_call 120;refine (HTXT.out _ _ _ hb6).mono ?_;rintro e x7 ⟨⟨rfl,q3,q4,q5,q7,q9,q10,hb7⟩,hbb7⟩)
      have hrow7:=(hbb7.block x3.heap.size (Array.getElem?_eq_some_iff.1 hrow6).1).trans hrow6
      refine hK5.out _ _ (⟨q3,q4,q5,q7,q9,q10,hb7⟩) (fun hH7=>?_)
      clear hK5 K5
      try simp only [List.getElem_toArray,List.getElem_cons_succ,List.getElem_cons_zero,Act.put,List.setIfInBounds_toArray,List.set_cons_zero,List.set_cons_succ]
      refine wpAnyH_take (i:=20) (v:=_) rfl (by kernel_rfl) (by kernel_rfl) (by kernel_rfl) (fun _ _ _ h=>h) (Or.inl ⟨by rfl,fun w5 hSw=>(by (try dsimp only at hSw);go_simp;try with_reducible rfl)⟩) hH7 ?_
      try simp only [List.getElem_toArray,List.getElem_cons_succ,List.getElem_cons_zero,Act.put,List.setIfInBounds_toArray,List.set_cons_zero,List.set_cons_succ]
      have z0:(x7).cell? ⟨x3.heap.size,0,none⟩=some (.int .i64 0):=cellAt hrow7 rfl
      have zf0:=frozen_of_row _ _ 0 _ _ hrow7
      have z1:(x7).cell? ⟨x3.heap.size,1,none⟩=some (.int .i64 0):=cellAt hrow7 rfl
      have zf1:=frozen_of_row _ _ 1 _ _ hrow7
      have z2:(x7).cell? ⟨x3.heap.size,2,none⟩=some (.int .i64 0):=cellAt hrow7 rfl
      have zf2:=frozen_of_row _ _ 2 _ _ hrow7
      have z3:(x7).cell? ⟨x3.heap.size,3,none⟩=some (.string ⟨#[]⟩):=cellAt hrow7 rfl
      have zf3:=frozen_of_row _ _ 3 _ _ hrow7
      have z4:(x7).cell? ⟨x3.heap.size,4,none⟩=some (.string ⟨#[]⟩):=cellAt hrow7 rfl
      have zf4:=frozen_of_row _ _ 4 _ _ hrow7
      have z5:(x7).cell? ⟨x3.heap.size,5,none⟩=some (.int .i64 0):=cellAt hrow7 rfl
      have zf5:=frozen_of_row _ _ 5 _ _ hrow7
      have z6:(x7).cell? ⟨x3.heap.size,6,none⟩=some (.int .i64 0):=cellAt hrow7 rfl
      have zf6:=frozen_of_row _ _ 6 _ _ hrow7
      refine wpAnyH_ready (rs:=[22]) (by kernel_rfl) (by simp) ?_
      refine AllReadyH.cons rfl (fun K5 hK5=>?_) AllReadyH.nil
      go_simp
      have hc8:=(((((((hb7.setCell (p:=⟨x3.heap.size,0,none⟩) hle6 (.int .i64 h.mode)).setCell (p:=⟨x3.heap.size,1,none⟩) hle6 (.int .i64 (numOf l kUid h.uid))).setCell (p:=⟨x3.heap.size,2,none⟩) hle6 (.int .i64 (numOf l kGid h.gid))).setCell (p:=⟨x3.heap.size,3,none⟩) hle6 (.string (textOf l kUname h.user))).setCell (p:=⟨x3.heap.size,4,none⟩) hle6 (.string (textOf l kGname h.group))).setCell (p:=⟨x3.heap.size,5,none⟩) hle6 (.int .i64 h.time)).setCell (p:=⟨x3.heap.size,6,none⟩) hle6 (.int .i64 0))
      refine hK5.out _ _ (HST.out _ hc8) (fun hG8=>?_)
      clear hK5 K5
      try simp only [List.getElem_toArray,List.getElem_cons_succ,List.getElem_cons_zero,Act.put,List.setIfInBounds_toArray,List.set_cons_zero,List.set_cons_succ]
      refine wpAnyH_done (by kernel_rfl) ?_ _
      refine NoPanic.normal ?_
      go_wp2_with fail
      go_meet
      case rel=>exact ⟨x3.heap.size,rfl,Lib.hid (hle6),Lib.hid ((heap_setCell_same _ _ 6 _ _ (.int .i64 0) (heap_setCell_same _ _ 5 _ _ (.int .i64 h.time) (heap_setCell_same _ _ 4 _ _ (.string (textOf l kGname h.group)) (heap_setCell_same _ _ 3 _ _ (.string (textOf l kUname h.user)) (heap_setCell_same _ _ 2 _ _ (.int .i64 (numOf l kGid h.gid)) (heap_setCell_same _ _ 1 _ _ (.int .i64 (numOf l kUid h.uid)) (heap_setCell_same _ _ 0 _ _ (.int .i64 h.mode) hrow7)))))))),Lib.hid (hc8)⟩
    ·go_simp
     have hb9:=hb2.alloc hb2.size (.cells #[.int .i64 0,.int .i64 0,.int .i64 0,.string ⟨#[]⟩,.string ⟨#[]⟩,.int .i64 0,.int .i64 0] 23)
     have hrow9:(x2.alloc (.cells #[.int .i64 0,.int .i64 0,.int .i64 0,.string ⟨#[]⟩,.string ⟨#[]⟩,.int .i64 0,.int .i64 0] 23)).heap[x2.heap.size]?=some (.cells #[.int .i64 0,.int .i64 0,.int .i64 0,.string ⟨#[]⟩,.string ⟨#[]⟩,.int .i64 0,.int .i64 0] 23 (0,0)):=heap_alloc_new _ _
     have hle9:w1.heap.size<=x2.heap.size:=hb2.size
     refine hK5.out _ _ (HST.out _ hb9) (fun hH9=>?_)
     clear hK5 K5
     try simp only [List.getElem_toArray,List.getElem_cons_succ,List.getElem_cons_zero,Act.put,List.setIfInBounds_toArray,List.set_cons_zero,List.set_cons_succ]
     refine wpAnyH_ready (rs:=[13]) (by kernel_rfl) (by simp) ?_
     refine AllReadyH.cons rfl (fun K5 hK5=>?_) AllReadyH.nil
     rw [if_pos (by rfl)]
     go_wp2_with (go_at_call 120;refine (HTXT.out _ _ _ hb9).mono ?_;rintro e x10 ⟨⟨rfl,q3,q4,q5,q7,q9,q10,hb10⟩,hbb10⟩)
     have hrow10:=(hbb10.block x2.heap.size (Array.getElem?_eq_some_iff.1 hrow9).1).trans hrow9
     refine hK5.out _ _ (⟨q3,q4,q5,q7,q9,q10,hb10⟩) (fun hH10=>?_)
     clear hK5 K5
     try simp only [List.getElem_toArray,List.getElem_cons_succ,List.getElem_cons_zero,Act.put,List.setIfInBounds_toArray,List.set_cons_zero,List.set_cons_succ]
     refine wpAnyH_ready (rs:=[17]) (by kernel_rfl) (by simp) ?_
     refine AllReadyH.cons rfl (fun K5 hK5=>?_) AllReadyH.nil
     rw [if_pos (by rfl)]
     go_wp2_with (go_at_call 120;refine (HTXT.out _ _ _ hb10).mono ?_;rintro e x11 ⟨⟨rfl,q3,q4,q5,q7,q9,q10,hb11⟩,hbb11⟩)
     have hrow11:=(hbb11.block x2.heap.size (Array.getElem?_eq_some_iff.1 hrow10).1).trans hrow10
     refine hK5.out _ _ (⟨q3,q4,q5,q7,q9,q10,hb11⟩) (fun hH11=>?_)
     clear hK5 K5
     try simp only [List.getElem_toArray,List.getElem_cons_succ,List.getElem_cons_zero,Act.put,List.setIfInBounds_toArray,List.set_cons_zero,List.set_cons_succ]
     refine wpAnyH_take (i:=20) (v:=_) rfl (by kernel_rfl) (by kernel_rfl) (by kernel_rfl) (fun _ _ _ h=>h) (Or.inl ⟨by rfl,fun w5 hSw=>(by (try dsimp only at hSw);go_simp;try with_reducible rfl)⟩) hH11 ?_
     try simp only [List.getElem_toArray,List.getElem_cons_succ,List.getElem_cons_zero,Act.put,List.setIfInBounds_toArray,List.set_cons_zero,List.set_cons_succ]
     have z0:(x11).cell? ⟨x2.heap.size,0,none⟩=some (.int .i64 0):=cellAt hrow11 rfl
     have zf0:=frozen_of_row _ _ 0 _ _ hrow11
     have z1:(x11).cell? ⟨x2.heap.size,1,none⟩=some (.int .i64 0):=cellAt hrow11 rfl
     have zf1:=frozen_of_row _ _ 1 _ _ hrow11
     have z2:(x11).cell? ⟨x2.heap.size,2,none⟩=some (.int .i64 0):=cellAt hrow11 rfl
     have zf2:=frozen_of_row _ _ 2 _ _ hrow11
     have z3:(x11).cell? ⟨x2.heap.size,3,none⟩=some (.string ⟨#[]⟩):=cellAt hrow11 rfl
     have zf3:=frozen_of_row _ _ 3 _ _ hrow11
     have z4:(x11).cell? ⟨x2.heap.size,4,none⟩=some (.string ⟨#[]⟩):=cellAt hrow11 rfl
     have zf4:=frozen_of_row _ _ 4 _ _ hrow11
     have z5:(x11).cell? ⟨x2.heap.size,5,none⟩=some (.int .i64 0):=cellAt hrow11 rfl
     have zf5:=frozen_of_row _ _ 5 _ _ hrow11
     have z6:(x11).cell? ⟨x2.heap.size,6,none⟩=some (.int .i64 0):=cellAt hrow11 rfl
     have zf6:=frozen_of_row _ _ 6 _ _ hrow11
     refine wpAnyH_ready (rs:=[22]) (by kernel_rfl) (by simp) ?_
     refine AllReadyH.cons rfl (fun K5 hK5=>?_) AllReadyH.nil
     go_simp
     have hc12:=(((((((hb11.setCell (p:=⟨x2.heap.size,0,none⟩) hle9 (.int .i64 h.mode)).setCell (p:=⟨x2.heap.size,1,none⟩) hle9 (.int .i64 (numOf l kUid h.uid))).setCell (p:=⟨x2.heap.size,2,none⟩) hle9 (.int .i64 (numOf l kGid h.gid))).setCell (p:=⟨x2.heap.size,3,none⟩) hle9 (.string (textOf l kUname h.user))).setCell (p:=⟨x2.heap.size,4,none⟩) hle9 (.string (textOf l kGname h.group))).setCell (p:=⟨x2.heap.size,5,none⟩) hle9 (.int .i64 h.time)).setCell (p:=⟨x2.heap.size,6,none⟩) hle9 (.int .i64 0))
     refine hK5.out _ _ (HST.out _ hc12) (fun hG12=>?_)
     clear hK5 K5
     try simp only [List.getElem_toArray,List.getElem_cons_succ,List.getElem_cons_zero,Act.put,List.setIfInBounds_toArray,List.set_cons_zero,List.set_cons_succ]
     refine wpAnyH_done (by kernel_rfl) ?_ _
     refine NoPanic.normal ?_
     go_wp2_with fail
     go_meet
     case rel=>exact ⟨x2.heap.size,rfl,Lib.hid (hle9),Lib.hid ((heap_setCell_same _ _ 6 _ _ (.int .i64 0) (heap_setCell_same _ _ 5 _ _ (.int .i64 h.time) (heap_setCell_same _ _ 4 _ _ (.string (textOf l kGname h.group)) (heap_setCell_same _ _ 3 _ _ (.string (textOf l kUname h.user)) (heap_setCell_same _ _ 2 _ _ (.int .i64 (numOf l kGid h.gid)) (heap_setCell_same _ _ 1 _ _ (.int .i64 (numOf l kUid h.uid)) (heap_setCell_same _ _ 0 _ _ (.int .i64 h.mode) hrow11)))))))),Lib.hid (hc12)⟩
   ·go_simp
    have hb13:=hb1.alloc hb1.size (.cells #[.int .i64 0,.int .i64 0,.int .i64 0,.string ⟨#[]⟩,.string ⟨#[]⟩,.int .i64 0,.int .i64 0] 23)
    have hrow13:(x1.alloc (.cells #[.int .i64 0,.int .i64 0,.int .i64 0,.string ⟨#[]⟩,.string ⟨#[]⟩,.int .i64 0,.int .i64 0] 23)).heap[x1.heap.size]?=some (.cells #[.int .i64 0,.int .i64 0,.int .i64 0,.string ⟨#[]⟩,.string ⟨#[]⟩,.int .i64 0,.int .i64 0] 23 (0,0)):=heap_alloc_new _ _
    have hle13:w1.heap.size<=x1.heap.size:=hb1.size
    refine hK5.out _ _ (HST.out _ hb13) (fun hH13=>?_)
    clear hK5 K5
    try simp only [List.getElem_toArray,List.getElem_cons_succ,List.getElem_cons_zero,Act.put,List.setIfInBounds_toArray,List.set_cons_zero,List.set_cons_succ]
    refine wpAnyH_ready (rs:=[9]) (by kernel_rfl) (by simp) ?_
    refine AllReadyH.cons rfl (fun K5 hK5=>?_) AllReadyH.nil
    rw [if_pos (by rfl)]
    go_wp2_with (go_at_call 122;refine (HNUM.out _ _ _ hb13).mono ?_;rintro e x14 ⟨⟨rfl,q3,q4,q5,q7,q9,q10,hb14⟩,hbb14⟩)
    have hrow14:=(hbb14.block x1.heap.size (Array.getElem?_eq_some_iff.1 hrow13).1).trans hrow13
    refine hK5.out _ _ (⟨q3,q4,q5,q7,q9,q10,hb14⟩) (fun hH14=>?_)
    clear hK5 K5
    try simp only [List.getElem_toArray,List.getElem_cons_succ,List.getElem_cons_zero,Act.put,List.setIfInBounds_toArray,List.set_cons_zero,List.set_cons_succ]
    refine wpAnyH_ready (rs:=[13]) (by kernel_rfl) (by simp) ?_
    refine AllReadyH.cons rfl (fun K5 hK5=>?_) AllReadyH.nil
    rw [if_pos (by rfl)]
    go_wp2_with (go_at_call 120;refine (HTXT.out _ _ _ hb14).mono ?_;rintro e x15 ⟨⟨rfl,q3,q4,q5,q7,q9,q10,hb15⟩,hbb15⟩)
    have hrow15:=(hbb15.block x1.heap.size (Array.getElem?_eq_some_iff.1 hrow14).1).trans hrow14
    refine hK5.out _ _ (⟨q3,q4,q5,q7,q9,q10,hb15⟩) (fun hH15=>?_)
    clear hK5 K5
    try simp only [List.getElem_toArray,List.getElem_cons_succ,List.getElem_cons_zero,Act.put,List.setIfInBounds_toArray,List.set_cons_zero,List.set_cons_succ]
    refine wpAnyH_ready (rs:=[17]) (by kernel_rfl) (by simp) ?_
    refine AllReadyH.cons rfl (fun K5 hK5=>?_) AllReadyH.nil
    rw [if_pos (by rfl)]
    go_wp2_with (go_at_call 120;refine (HTXT.out _ _ _ hb15).mono ?_;rintro e x16 ⟨⟨rfl,q3,q4,q5,q7,q9,q10,hb16⟩,hbb16⟩)
    have hrow16:=(hbb16.block x1.heap.size (Array.getElem?_eq_some_iff.1 hrow15).1).trans hrow15
    refine hK5.out _ _ (⟨q3,q4,q5,q7,q9,q10,hb16⟩) (fun hH16=>?_)
    clear hK5 K5
    try simp only [List.getElem_toArray,List.getElem_cons_succ,List.getElem_cons_zero,Act.put,List.setIfInBounds_toArray,List.set_cons_zero,List.set_cons_succ]
    refine wpAnyH_take (i:=20) (v:=_) rfl (by kernel_rfl) (by kernel_rfl) (by kernel_rfl) (fun _ _ _ h=>h) (Or.inl ⟨by rfl,fun w5 hSw=>(by (try dsimp only at hSw);go_simp;try with_reducible rfl)⟩) hH16 ?_
    try simp only [List.getElem_toArray,List.getElem_cons_succ,List.getElem_cons_zero,Act.put,List.setIfInBounds_toArray,List.set_cons_zero,List.set_cons_succ]
    have z0:(x16).cell? ⟨x1.heap.size,0,none⟩=some (.int .i64 0):=cellAt hrow16 rfl
    have zf0:=frozen_of_row _ _ 0 _ _ hrow16
    have z1:(x16).cell? ⟨x1.heap.size,1,none⟩=some (.int .i64 0):=cellAt hrow16 rfl
    have zf1:=frozen_of_row _ _ 1 _ _ hrow16
    have z2:(x16).cell? ⟨x1.heap.size,2,none⟩=some (.int .i64 0):=cellAt hrow16 rfl
    have zf2:=frozen_of_row _ _ 2 _ _ hrow16
    have z3:(x16).cell? ⟨x1.heap.size,3,none⟩=some (.string ⟨#[]⟩):=cellAt hrow16 rfl
    have zf3:=frozen_of_row _ _ 3 _ _ hrow16
    have z4:(x16).cell? ⟨x1.heap.size,4,none⟩=some (.string ⟨#[]⟩):=cellAt hrow16 rfl
    have zf4:=frozen_of_row _ _ 4 _ _ hrow16
    have z5:(x16).cell? ⟨x1.heap.size,5,none⟩=some (.int .i64 0):=cellAt hrow16 rfl
    have zf5:=frozen_of_row _ _ 5 _ _ hrow16
    have z6:(x16).cell? ⟨x1.heap.size,6,none⟩=some (.int .i64 0):=cellAt hrow16 rfl
    have zf6:=frozen_of_row _ _ 6 _ _ hrow16
    refine wpAnyH_ready (rs:=[22]) (by kernel_rfl) (by simp) ?_
    refine AllReadyH.cons rfl (fun K5 hK5=>?_) AllReadyH.nil
    go_simp
    have hc17:=(((((((hb16.setCell (p:=⟨x1.heap.size,0,none⟩) hle13 (.int .i64 h.mode)).setCell (p:=⟨x1.heap.size,1,none⟩) hle13 (.int .i64 (numOf l kUid h.uid))).setCell (p:=⟨x1.heap.size,2,none⟩) hle13 (.int .i64 (numOf l kGid h.gid))).setCell (p:=⟨x1.heap.size,3,none⟩) hle13 (.string (textOf l kUname h.user))).setCell (p:=⟨x1.heap.size,4,none⟩) hle13 (.string (textOf l kGname h.group))).setCell (p:=⟨x1.heap.size,5,none⟩) hle13 (.int .i64 h.time)).setCell (p:=⟨x1.heap.size,6,none⟩) hle13 (.int .i64 0))
    refine hK5.out _ _ (HST.out _ hc17) (fun hG17=>?_)
    clear hK5 K5
    try simp only [List.getElem_toArray,List.getElem_cons_succ,List.getElem_cons_zero,Act.put,List.setIfInBounds_toArray,List.set_cons_zero,List.set_cons_succ]
    refine wpAnyH_done (by kernel_rfl) ?_ _
    refine NoPanic.normal ?_
    go_wp2_with fail
    go_meet
    case rel=>exact ⟨x1.heap.size,rfl,Lib.hid (hle13),Lib.hid ((heap_setCell_same _ _ 6 _ _ (.int .i64 0) (heap_setCell_same _ _ 5 _ _ (.int .i64 h.time) (heap_setCell_same _ _ 4 _ _ (.string (textOf l kGname h.group)) (heap_setCell_same _ _ 3 _ _ (.string (textOf l kUname h.user)) (heap_setCell_same _ _ 2 _ _ (.int .i64 (numOf l kGid h.gid)) (heap_setCell_same _ _ 1 _ _ (.int .i64 (numOf l kUid h.uid)) (heap_setCell_same _ _ 0 _ _ (.int .i64 h.mode) hrow16)))))))),Lib.hid (hc17)⟩
  ·go_simp
   have hb18:=hdr.alloc hdr.size (.cells #[.int .i64 0,.int .i64 0,.int .i64 0,.string ⟨#[]⟩,.string ⟨#[]⟩,.int .i64 0,.int .i64 0] 23)
   have hrow18:(w1.drew.alloc (.cells #[.int .i64 0,.int .i64 0,.int .i64 0,.string ⟨#[]⟩,.string ⟨#[]⟩,.int .i64 0,.int .i64 0] 23)).heap[w1.heap.size]?=some (.cells #[.int .i64 0,.int .i64 0,.int .i64 0,.string ⟨#[]⟩,.string ⟨#[]⟩,.int .i64 0,.int .i64 0] 23 (0,0)):=heap_alloc_new _ _
   have hle18:w1.heap.size<=w1.heap.size:=hdr.size
   refine hK5.out _ _ (HST.out _ hb18) (fun hH18=>?_)
   clear hK5 K5
   try simp only [List.getElem_toArray,List.getElem_cons_succ,List.getElem_cons_zero,Act.put,List.setIfInBounds_toArray,List.set_cons_zero,List.set_cons_succ]
   refine wpAnyH_ready (rs:=[5]) (by kernel_rfl) (by simp) ?_
   refine AllReadyH.cons rfl (fun K5 hK5=>?_) AllReadyH.nil
   rw [if_pos (by rfl)]
   go_wp2_with (go_at_call 122;refine (HNUM.out _ _ _ hb18).mono ?_;rintro e x19 ⟨⟨rfl,q3,q4,q5,q7,q9,q10,hb19⟩,hbb19⟩)
   have hrow19:=(hbb19.block w1.heap.size (Array.getElem?_eq_some_iff.1 hrow18).1).trans hrow18
   refine hK5.out _ _ (⟨q3,q4,q5,q7,q9,q10,hb19⟩) (fun hH19=>?_)
   clear hK5 K5
   try simp only [List.getElem_toArray,List.getElem_cons_succ,List.getElem_cons_zero,Act.put,List.setIfInBounds_toArray,List.set_cons_zero,List.set_cons_succ]
   refine wpAnyH_ready (rs:=[9]) (by kernel_rfl) (by simp) ?_
   refine AllReadyH.cons rfl (fun K5 hK5=>?_) AllReadyH.nil
   rw [if_pos (by rfl)]
   go_wp2_with (go_at_call 122;refine (HNUM.out _ _ _ hb19).mono ?_;rintro e x20 ⟨⟨rfl,q3,q4,q5,q7,q9,q10,hb20⟩,hbb20⟩)
   have hrow20:=(hbb20.block w1.heap.size (Array.getElem?_eq_some_iff.1 hrow19).1).trans hrow19
   refine hK5.out _ _ (⟨q3,q4,q5,q7,q9,q10,hb20⟩) (fun hH20=>?_)
   clear hK5 K5
   try simp only [List.getElem_toArray,List.getElem_cons_succ,List.getElem_cons_zero,Act.put,List.setIfInBounds_toArray,List.set_cons_zero,List.set_cons_succ]
   refine wpAnyH_ready (rs:=[13]) (by kernel_rfl) (by simp) ?_
   refine AllReadyH.cons rfl (fun K5 hK5=>?_) AllReadyH.nil
   rw [if_pos (by rfl)]
   go_wp2_with (go_at_call 120;refine (HTXT.out _ _ _ hb20).mono ?_;rintro e x21 ⟨⟨rfl,q3,q4,q5,q7,q9,q10,hb21⟩,hbb21⟩)
   have hrow21:=(hbb21.block w1.heap.size (Array.getElem?_eq_some_iff.1 hrow20).1).trans hrow20
   refine hK5.out _ _ (⟨q3,q4,q5,q7,q9,q10,hb21⟩) (fun hH21=>?_)
   clear hK5 K5
   try simp only [List.getElem_toArray,List.getElem_cons_succ,List.getElem_cons_zero,Act.put,List.setIfInBounds_toArray,List.set_cons_zero,List.set_cons_succ]
   refine wpAnyH_ready (rs:=[17]) (by kernel_rfl) (by simp) ?_
   refine AllReadyH.cons rfl (fun K5 hK5=>?_) AllReadyH.nil
   rw [if_pos (by rfl)]
   go_wp2_with (go_at_call 120;refine (HTXT.out _ _ _ hb21).mono ?_;rintro e x22 ⟨⟨rfl,q3,q4,q5,q7,q9,q10,hb22⟩,hbb22⟩)
   have hrow22:=(hbb22.block w1.heap.size (Array.getElem?_eq_some_iff.1 hrow21).1).trans hrow21
   refine hK5.out _ _ (⟨q3,q4,q5,q7,q9,q10,hb22⟩) (fun hH22=>?_)
   clear hK5 K5
   try simp only [List.getElem_toArray,List.getElem_cons_succ,List.getElem_cons_zero,Act.put,List.setIfInBounds_toArray,List.set_cons_zero,List.set_cons_succ]
   refine wpAnyH_take (i:=20) (v:=_) rfl (by kernel_rfl) (by kernel_rfl) (by kernel_rfl) (fun _ _ _ h=>h) (Or.inl ⟨by rfl,fun w5 hSw=>(by (try dsimp only at hSw);go_simp;try with_reducible rfl)⟩) hH22 ?_
   try simp only [List.getElem_toArray,List.getElem_cons_succ,List.getElem_cons_zero,Act.put,List.setIfInBounds_toArray,List.set_cons_zero,List.set_cons_succ]
   have z0:(x22).cell? ⟨w1.heap.size,0,none⟩=some (.int .i64 0):=cellAt hrow22 rfl
   have zf0:=frozen_of_row _ _ 0 _ _ hrow22
   have z1:(x22).cell? ⟨w1.heap.size,1,none⟩=some (.int .i64 0):=cellAt hrow22 rfl
   have zf1:=frozen_of_row _ _ 1 _ _ hrow22
   have z2:(x22).cell? ⟨w1.heap.size,2,none⟩=some (.int .i64 0):=cellAt hrow22 rfl
   have zf2:=frozen_of_row _ _ 2 _ _ hrow22
   have z3:(x22).cell? ⟨w1.heap.size,3,none⟩=some (.string ⟨#[]⟩):=cellAt hrow22 rfl
   have zf3:=frozen_of_row _ _ 3 _ _ hrow22
   have z4:(x22).cell? ⟨w1.heap.size,4,none⟩=some (.string ⟨#[]⟩):=cellAt hrow22 rfl
   have zf4:=frozen_of_row _ _ 4 _ _ hrow22
   have z5:(x22).cell? ⟨w1.heap.size,5,none⟩=some (.int .i64 0):=cellAt hrow22 rfl
   have zf5:=frozen_of_row _ _ 5 _ _ hrow22
   have z6:(x22).cell? ⟨w1.heap.size,6,none⟩=some (.int .i64 0):=cellAt hrow22 rfl
   have zf6:=frozen_of_row _ _ 6 _ _ hrow22
   refine wpAnyH_ready (rs:=[22]) (by kernel_rfl) (by simp) ?_
   refine AllReadyH.cons rfl (fun K5 hK5=>?_) AllReadyH.nil
   go_simp
   have hc23:=(((((((hb22.setCell (p:=⟨w1.heap.size,0,none⟩) hle18 (.int .i64 h.mode)).setCell (p:=⟨w1.heap.size,1,none⟩) hle18 (.int .i64 (numOf l kUid h.uid))).setCell (p:=⟨w1.heap.size,2,none⟩) hle18 (.int .i64 (numOf l kGid h.gid))).setCell (p:=⟨w1.heap.size,3,none⟩) hle18 (.string (textOf l kUname h.user))).setCell (p:=⟨w1.heap.size,4,none⟩) hle18 (.string (textOf l kGname h.group))).setCell (p:=⟨w1.heap.size,5,none⟩) hle18 (.int .i64 h.time)).setCell (p:=⟨w1.heap.size,6,none⟩) hle18 (.int .i64 0))
   refine hK5.out _ _ (HST.out _ hc23) (fun hG23=>?_)
   clear hK5 K5
   try simp only [List.getElem_toArray,List.getElem_cons_succ,List.getElem_cons_zero,Act.put,List.setIfInBounds_toArray,List.set_cons_zero,List.set_cons_succ]
   refine wpAnyH_done (by kernel_rfl) ?_ _
   refine NoPanic.normal ?_
   go_wp2_with fail
   go_meet
   case rel=>exact ⟨w1.heap.size,rfl,Lib.hid (hle18),Lib.hid ((heap_setCell_same _ _ 6 _ _ (.int .i64 0) (heap_setCell_same _ _ 5 _ _ (.int .i64 h.time) (heap_setCell_same _ _ 4 _ _ (.string (textOf l kGname h.group)) (heap_setCell_same _ _ 3 _ _ (.string (textOf l kUname h.user)) (heap_setCell_same _ _ 2 _ _ (.int .i64 (numOf l kGid h.gid)) (heap_setCell_same _ _ 1 _ _ (.int .i64 (numOf l kUid h.uid)) (heap_setCell_same _ _ 0 _ _ (.int .i64 h.mode) hrow22)))))))),Lib.hid (hc23)⟩
 case rest =>
 obtain ⟨bm,rfl,HLE,HM2,HB2⟩:=hcut
 obtain ⟨w2,rfl⟩:∃ W:World,W=wc:=⟨_,rfl⟩
 have hbz:=HBZ.out.size
 have hlc:w2.cell? ⟨w.heap.size+1,0,none⟩=some (.slice al l.length cl):=cellAt ((HB2.out.block _ hlb).trans HLROW.out) rfl
 have HPF:=Lib.hid (Find_any (.slice al l.length cl) l kMtime w2 (HSL.out w2 (HBZ.out.trans (HB2.out.mono HBZ.out.size))))
 clear HST HTXT HNUM hdr HMV c3 c4 c5 c7 c9 c10
 have HLE2:=HLE.out
 have HTR:Hid (∀ p,recFind l kMtime=p->timeR l h.time=if p.2=true then ((timeAns p.1.data.toList (rawP p.1.data.toList)).1,(timeAns p.1.data.toList (rawP p.1.data.toList)).2.1) else (h.time,0)):=Lib.hid (by rintro p rfl;rfl)
 have HSZ:=Lib.hid (show (recFind l kMtime).1.data.toList.length<=maxLen by
  have h1:=HSM.out kMtime
  have h2:(1048576:Nat)<=maxLen:=by unfold maxLen;decide
  rw [<-Lib.size_eq];omega)
 go_upto_region 4 with fail
 go_cut [10,11] from 38 to 42 (fun u10 u43 wy=>∃ v q,u10 = .string v/\u43 = .bool q/\Hid (recFind l kMtime=(v,q))/\Hid (wy.heap[bm]?=some (.cells #[.int .i64 h.mode,.int .i64 (numOf l kUid h.uid),.int .i64 (numOf l kGid h.gid),.string (textOf l kUname h.user),.string (textOf l kGname h.group),.int .i64 h.time,.int .i64 0] 23 (0,0)))/\Hid (Below w1.heap.size w1 wy))
 case first =>
  go_wp2_with (go_at_call 121;refine HPF.out.mono ?_;rintro e w3 ⟨rfl,hb3⟩)
  go_meet
  case rel=>exact ⟨_,_,rfl,rfl,Lib.hid rfl,Lib.hid ((hb3.block _ (Array.getElem?_eq_some_iff.1 HM2.out).1).trans HM2.out),Lib.hid (HB2.out.trans (hb3.mono HB2.out.size))⟩
 case rest =>
 obtain ⟨v,q,rfl,rfl,HFD,HM3,HB3⟩:=hcut
 obtain ⟨w3,rfl⟩:∃ W:World,W=wc:=⟨_,rfl⟩
 have HTQ:=Lib.hid (HTR.out _ HFD.out)
 have hsz:=HSZ.out
 rw [HFD.out] at hsz
 clear HM2 HB2 HPF HTR HSZ hlc HFD
 go_step
 go_cut [43] from 44 to 51 (fun u wy=>u = .bool q/\Hid (wy.heap[bm]?=some (.cells #[.int .i64 h.mode,.int .i64 (numOf l kUid h.uid),.int .i64 (numOf l kGid h.gid),.string (textOf l kUname h.user),.string (textOf l kGname h.group),.int .i64 (timeR l h.time).1,.int .i64 (timeR l h.time).2] 23 (0,0)))/\Hid (Below w1.heap.size w1 wy))
 case first =>
  simp only at HTQ
  cases q with
  | true =>
    rw [if_pos rfl] at HTQ
    obtain ⟨lv,rfl⟩:∃ lv,v=ofL lv:=⟨v.data.toList,ByteArray.ext (by simp [ofL])⟩
    have hlv:(ofL lv).data.toList=lv:=by simp [ofL]
    rw [hlv] at HTQ
    have hsz2:lv.length<=maxLen:=by rw [<-hlv];exact hsz
    clear hlv hsz
    have HSP:=Lib.hid (StampParse_any lv w3 hsz2 (HT.out.below (HBZ.out.trans (HB3.out.mono HBZ.out.size))))
    clear hsz2
    go_wp2_with fail
    refine HSP.out.mono ?_
    rintro e w4 ⟨rfl,hb4⟩
    have hM4:=(hb4.block _ (Array.getElem?_eq_some_iff.1 HM3.out).1).trans HM3.out
    have z5:w4.cell? ⟨bm,5,none⟩=some (.int .i64 h.time):=cellAt hM4 rfl
    have z6:w4.cell? ⟨bm,6,none⟩=some (.int .i64 0):=cellAt hM4 rfl
    have zf5:=frozen_of_row _ _ 5 _ _ hM4
    have zf6:=frozen_of_row _ _ 6 _ _ hM4
    have HM4:=Lib.hid hM4
    have HB4:=Lib.hid (HB3.out.trans (hb4.mono HB3.out.size))
    clear hM4 hb4
    go_wp2_with fail
    go_meet
    case rel=>exact ⟨rfl,Lib.hid (by rw [HTQ.out];exact heap_setCell_same _ _ 6 _ _ _ (heap_setCell_same _ _ 5 _ _ _ HM4.out)),Lib.hid ((HB4.out.setCell (p:=⟨bm,5,none⟩) HLE.out _).setCell (p:=⟨bm,6,none⟩) HLE.out _)⟩
  | false =>
    rw [if_neg (by simp)] at HTQ
    go_wp2_with fail
    go_meet
    case rel=>exact ⟨rfl,Lib.hid (by rw [HTQ.out];exact HM3.out),HB3⟩
 case rest =>
 obtain ⟨rfl,HM5,HB5⟩:=hcut
 clear HM3 HB3 HTQ hsz
 obtain ⟨w3,rfl⟩:∃ W:World,W=wc:=⟨_,rfl⟩
 have HM3:=HM5
 have HB3:=HB5
 clear HM5 HB5
 have c0:w3.cell? ⟨w.heap.size,0,none⟩=some (.string h.nm):=cellAt ((HB3.out.block _ hhb).trans HROW.out) rfl
 have c1:w3.cell? ⟨w.heap.size,1,none⟩=some (.string h.px):=cellAt ((HB3.out.block _ hhb).trans HROW.out) rfl
 go_wp2_with fail
 refine (One_any h.px h.nm _ HOK.out.1 HOK.out.2).mono ?_
 rintro e w4 ⟨rfl,hb4⟩
 go_upto_region 8 with fail
 have HB4:=Lib.hid (HB3.out.trans (hb4.mono HB3.out.size))
 have HM4:=Lib.hid ((hb4.block _ (Array.getElem?_eq_some_iff.1 HM3.out).1).trans HM3.out)
 have c8:w4.cell? ⟨w.heap.size,8,none⟩=some (.int .u8 h.typ.toNat):=cellAt ((HB4.out.block _ hhb).trans HROW.out) rfl
 clear hb4 HB3 HM3 c0 c1
 have hmm := @run_makeMap Tryz.prog
 have m1:=fun (w:World)=>map_put_new (P:=Tryz.prog) keyOn_u8 Tryz.underlying154 Tryz.underlying5 #[] 0 48 (.int .i64 1) rfl w
 have m2:=fun (w:World)=>map_put_new (P:=Tryz.prog) keyOn_u8 Tryz.underlying154 Tryz.underlying5 #[⟨.int .u8 48,.int .i64 1,0⟩] 1 53 (.int .i64 2) rfl w
 have m3:=fun (w:World)=>map_put_new (P:=Tryz.prog) keyOn_u8 Tryz.underlying154 Tryz.underlying5 #[⟨.int .u8 48,.int .i64 1,0⟩,⟨.int .u8 53,.int .i64 2,1⟩] 2 50 (.int .i64 3) rfl w
 have m4:=fun (w:World)=>map_put_new (P:=Tryz.prog) keyOn_u8 Tryz.underlying154 Tryz.underlying5 #[⟨.int .u8 48,.int .i64 1,0⟩,⟨.int .u8 53,.int .i64 2,1⟩,⟨.int .u8 50,.int .i64 3,2⟩] 3 49 (.int .i64 4) rfl w
 have m5:=fun (w:World)=>kind_look (P:=Tryz.prog) Tryz.underlying154 Tryz.underlying5 (fun w=>Tryz.zeroValue3 w) h.typ w
 simp only [List.push_toArray,List.nil_append,List.cons_append,Nat.reduceAdd] at m1 m2 m3 m4
 have h8l:w.heap.size<w4.heap.size:=Nat.lt_of_lt_of_le hhb HB4.out.size
 have c8':∀ o:Obj,(w4.alloc o).cell? ⟨w.heap.size,8,none⟩=some (.int .u8 h.typ.toNat):=fun o=>cellAt ((heap_alloc_old w4 o h8l).trans ((HB4.out.block _ hhb).trans HROW.out)) rfl
 go_upto_region 9 with fail
 clear m1 m2 m3 m4 m5 hmm c8 c8'
 have HM5:=Lib.hid ((heap_alloc_old w4 (.map #[⟨.int .u8 48,.int .i64 1,0⟩,⟨.int .u8 53,.int .i64 2,1⟩,⟨.int .u8 50,.int .i64 3,2⟩,⟨.int .u8 49,.int .i64 4,3⟩] 4) (Array.getElem?_eq_some_iff.1 HM4.out).1).trans HM4.out)
 have HB5:=Lib.hid (HB4.out.alloc HB4.out.size (.map #[⟨.int .u8 48,.int .i64 1,0⟩,⟨.int .u8 53,.int .i64 2,1⟩,⟨.int .u8 50,.int .i64 3,2⟩,⟨.int .u8 49,.int .i64 4,3⟩] 4))
 clear HB4 HM4 h8l
 generalize w4.alloc (.map #[⟨.int .u8 48,.int .i64 1,0⟩,⟨.int .u8 53,.int .i64 2,1⟩,⟨.int .u8 50,.int .i64 3,2⟩,⟨.int .u8 49,.int .i64 4,3⟩] 4)=w5 at *
 have HR5:=Lib.hid ((HB5.out.block _ hhb).trans HROW.out)
 have HZ5:=Lib.hid ((HB5.out.block _ (Array.getElem?_eq_some_iff.1 HZROW.out).1).trans HZROW.out)
 have hlc5:w5.cell? ⟨w.heap.size+1,0,none⟩=some (.slice al l.length cl):=cellAt ((HB5.out.block _ hlb).trans HLROW.out) rfl
 have HBW:=Lib.hid (HBZ.out.trans (HB5.out.mono HBZ.out.size))
 have hbmz:w.heap.size+2<bm:=Nat.lt_of_lt_of_le (Array.getElem?_eq_some_iff.1 HZROW.out).1 HLE.out
 have HST9:=Lib.hid (fun w' (hB:Below w5.heap.size w5 w')=>show w'.cell? ⟨w.heap.size,2,none⟩=some (.string h.lk)/\w'.cell? ⟨bm,0,none⟩=some (.int .i64 h.mode)/\w'.cell? ⟨bm,1,none⟩=some (.int .i64 (numOf l kUid h.uid))/\w'.cell? ⟨bm,2,none⟩=some (.int .i64 (numOf l kGid h.gid))/\w'.cell? ⟨bm,3,none⟩=some (.string (textOf l kUname h.user))/\w'.cell? ⟨bm,4,none⟩=some (.string (textOf l kGname h.group))/\w'.cell? ⟨bm,5,none⟩=some (.int .i64 (timeR l h.time).1)/\w'.cell? ⟨bm,6,none⟩=some (.int .i64 (timeR l h.time).2)/\Below w.heap.size w w' from ⟨cellAt ((hB.block _ (Array.getElem?_eq_some_iff.1 HR5.out).1).trans HR5.out) rfl,
  cellAt ((hB.block _ (Array.getElem?_eq_some_iff.1 HM5.out).1).trans HM5.out) rfl,cellAt ((hB.block _ (Array.getElem?_eq_some_iff.1 HM5.out).1).trans HM5.out) rfl,cellAt ((hB.block _ (Array.getElem?_eq_some_iff.1 HM5.out).1).trans HM5.out) rfl,cellAt ((hB.block _ (Array.getElem?_eq_some_iff.1 HM5.out).1).trans HM5.out) rfl,cellAt ((hB.block _ (Array.getElem?_eq_some_iff.1 HM5.out).1).trans HM5.out) rfl,cellAt ((hB.block _ (Array.getElem?_eq_some_iff.1 HM5.out).1).trans HM5.out) rfl,cellAt ((hB.block _ (Array.getElem?_eq_some_iff.1 HM5.out).1).trans HM5.out) rfl,HBW.out.trans (hB.mono HBW.out.size)⟩)
 have HTX9:=Lib.hid (fun key s W (hB:Below w5.heap.size w5 W)=>show Calls Tryz.prog 120 #[.string key,.string s,.pointer (some ⟨w.heap.size+1,0,none⟩)] W (fun e w'=>(e = .returned (.string (textOf l key s))/\w'.cell? ⟨w.heap.size,2,none⟩=some (.string h.lk)/\w'.cell? ⟨bm,0,none⟩=some (.int .i64 h.mode)/\w'.cell? ⟨bm,1,none⟩=some (.int .i64 (numOf l kUid h.uid))/\w'.cell? ⟨bm,2,none⟩=some (.int .i64 (numOf l kGid h.gid))/\w'.cell? ⟨bm,3,none⟩=some (.string (textOf l kUname h.user))/\w'.cell? ⟨bm,4,none⟩=some (.string (textOf l kGname h.group))/\w'.cell? ⟨bm,5,none⟩=some (.int .i64 (timeR l h.time).1)/\w'.cell? ⟨bm,6,none⟩=some (.int .i64 (timeR l h.time).2)/\Below w.heap.size w w')/\Below W.heap.size W w') from
  (TextU_any key s _ (.slice al l.length cl) l W (cellAt ((hB.block _ (Nat.lt_of_lt_of_le hlb HB5.out.size)).trans ((HB5.out.block _ hlb).trans HLROW.out)) rfl) (HSL.out W (HBW.out.trans (hB.mono HBW.out.size)))).mono fun e w' hh=>⟨⟨hh.1,HST9.out w' (hB.trans (hh.2.mono hB.size))⟩,hh.2⟩)
 have hdr9:=(Below.refl w5.heap.size w5).drew
 have hbwd:Below w.heap.size w w5.drew:=HBW.out.drew
 have c2:w5.cell? ⟨w.heap.size,2,none⟩=some (.string h.lk):=cellAt HR5.out rfl
 have b0:w5.cell? ⟨bm,0,none⟩=some (.int .i64 h.mode):=cellAt HM5.out rfl
 have b1:w5.cell? ⟨bm,1,none⟩=some (.int .i64 (numOf l kUid h.uid)):=cellAt HM5.out rfl
 have b2:w5.cell? ⟨bm,2,none⟩=some (.int .i64 (numOf l kGid h.gid)):=cellAt HM5.out rfl
 have b3:w5.cell? ⟨bm,3,none⟩=some (.string (textOf l kUname h.user)):=cellAt HM5.out rfl
 have b4:w5.cell? ⟨bm,4,none⟩=some (.string (textOf l kGname h.group)):=cellAt HM5.out rfl
 have b5:w5.cell? ⟨bm,5,none⟩=some (.int .i64 (timeR l h.time).1):=cellAt HM5.out rfl
 have b6:w5.cell? ⟨bm,6,none⟩=some (.int .i64 (timeR l h.time).2):=cellAt HM5.out rfl
 refine wp_region_noPanic ?_
 refine wp_region_held_drew (S:=fun w'=>w'.cell? ⟨w.heap.size,2,none⟩=some (.string h.lk)/\w'.cell? ⟨bm,0,none⟩=some (.int .i64 h.mode)/\w'.cell? ⟨bm,1,none⟩=some (.int .i64 (numOf l kUid h.uid))/\w'.cell? ⟨bm,2,none⟩=some (.int .i64 (numOf l kGid h.gid))/\w'.cell? ⟨bm,3,none⟩=some (.string (textOf l kUname h.user))/\w'.cell? ⟨bm,4,none⟩=some (.string (textOf l kGname h.group))/\w'.cell? ⟨bm,5,none⟩=some (.int .i64 (timeR l h.time).1)/\w'.cell? ⟨bm,6,none⟩=some (.int .i64 (timeR l h.time).2)/\Below w.heap.size w w') (by kernel_rfl) (by go_keep) (fun hHeld=>?_)
 refine wpAnyH_take (i:=0) (v:=_) rfl (by kernel_rfl) (by kernel_rfl) (by kernel_rfl) (fun _ _ _ h=>h) (Or.inl ⟨by rfl,fun w5 hSw=>(by (try dsimp only at hSw);go_simp;try with_reducible rfl)⟩) hHeld ?_
 try simp only [List.getElem_toArray,List.getElem_cons_succ,List.getElem_cons_zero,Act.put,List.setIfInBounds_toArray,List.set_cons_zero,List.set_cons_succ]
 refine wpAnyH_take (i:=1) (v:=_) rfl (by kernel_rfl) (by kernel_rfl) (by kernel_rfl) (fun _ _ _ h=>h) (Or.inl ⟨by rfl,fun w5 hSw=>(by (try dsimp only at hSw);go_simp;try with_reducible rfl)⟩) hHeld ?_
 try simp only [List.getElem_toArray,List.getElem_cons_succ,List.getElem_cons_zero,Act.put,List.setIfInBounds_toArray,List.set_cons_zero,List.set_cons_succ]
 refine wpAnyH_take (i:=3) (v:=_) rfl (by kernel_rfl) (by kernel_rfl) (by kernel_rfl) (fun _ _ _ h=>h) (Or.inl ⟨by rfl,fun w5 hSw=>(by (try dsimp only at hSw);go_simp;try with_reducible rfl)⟩) hHeld ?_
 try simp only [List.getElem_toArray,List.getElem_cons_succ,List.getElem_cons_zero,Act.put,List.setIfInBounds_toArray,List.set_cons_zero,List.set_cons_succ]
 refine wpAnyH_take (i:=4) (v:=_) rfl (by kernel_rfl) (by kernel_rfl) (by kernel_rfl) (fun _ _ _ h=>h) (Or.inl ⟨by rfl,fun w5 hSw=>(by (try dsimp only at hSw);go_simp;try with_reducible rfl)⟩) hHeld ?_
 try simp only [List.getElem_toArray,List.getElem_cons_succ,List.getElem_cons_zero,Act.put,List.setIfInBounds_toArray,List.set_cons_zero,List.set_cons_succ]
 refine wpAnyH_take (i:=5) (v:=_) rfl (by kernel_rfl) (by kernel_rfl) (by kernel_rfl) (fun _ _ _ h=>h) (Or.inl ⟨by rfl,fun w5 hSw=>(by (try dsimp only at hSw);go_simp;try with_reducible rfl)⟩) hHeld ?_
 try simp only [List.getElem_toArray,List.getElem_cons_succ,List.getElem_cons_zero,Act.put,List.setIfInBounds_toArray,List.set_cons_zero,List.set_cons_succ]
 refine wpAnyH_take (i:=6) (v:=_) rfl (by kernel_rfl) (by kernel_rfl) (by kernel_rfl) (fun _ _ _ h=>h) (Or.inl ⟨by rfl,fun w5 hSw=>(by (try dsimp only at hSw);go_simp;try with_reducible rfl)⟩) hHeld ?_
 try simp only [List.getElem_toArray,List.getElem_cons_succ,List.getElem_cons_zero,Act.put,List.setIfInBounds_toArray,List.set_cons_zero,List.set_cons_succ]
 refine wpAnyH_take (i:=8) (v:=_) rfl (by kernel_rfl) (by kernel_rfl) (by kernel_rfl) (fun _ _ _ h=>h) (Or.inl ⟨by rfl,fun w5 hSw=>(by (try dsimp only at hSw);go_simp;try with_reducible rfl)⟩) hHeld ?_
 try simp only [List.getElem_toArray,List.getElem_cons_succ,List.getElem_cons_zero,Act.put,List.setIfInBounds_toArray,List.set_cons_zero,List.set_cons_succ]
 refine wpAnyH_take (i:=9) (v:=_) rfl (by kernel_rfl) (by kernel_rfl) (by kernel_rfl) (fun _ _ _ h=>h) (Or.inl ⟨by rfl,fun w5 hSw=>(by (try dsimp only at hSw);go_simp;try with_reducible rfl)⟩) hHeld ?_
 try simp only [List.getElem_toArray,List.getElem_cons_succ,List.getElem_cons_zero,Act.put,List.setIfInBounds_toArray,List.set_cons_zero,List.set_cons_succ]
 refine wpAnyH_ready (rs:=[2]) (by kernel_rfl) (by simp) ?_
 refine AllReadyH.cons rfl (fun K5 hK5=>?_) AllReadyH.nil
 rw [if_pos (by rfl)]
 go_wp2_with (go_at_call 120;refine (HTX9.out _ _ _ hdr9).mono ?_;rintro e y1 ⟨⟨rfl,q0,qm0,qm1,qm2,qm3,qm4,qm5,qm6,qb⟩,hbb1⟩)
 refine hK5.out _ _ (⟨q0,qm0,qm1,qm2,qm3,qm4,qm5,qm6,qb⟩) (fun hH1=>?_)
 clear hK5 K5
 try simp only [List.getElem_toArray,List.getElem_cons_succ,List.getElem_cons_zero,Act.put,List.setIfInBounds_toArray,List.set_cons_zero,List.set_cons_succ]
 have hy1:=hdr9.trans (hbb1.mono hdr9.size)
 refine wpAnyH_ready (rs:=[7]) (by kernel_rfl) (by simp) ?_
 refine AllReadyH.cons rfl (fun K5 hK5=>?_) AllReadyH.nil
 rw [if_pos (by rfl)]
 go_wp2_with (go_at_call 120;refine (HTX9.out _ _ _ hy1).mono ?_;rintro e y2 ⟨⟨rfl,p0,pm0,pm1,pm2,pm3,pm4,pm5,pm6,pb⟩,hbb2⟩)
 refine hK5.out _ _ (⟨p0,pm0,pm1,pm2,pm3,pm4,pm5,pm6,pb⟩) (fun hH2=>?_)
 clear hK5 K5
 try simp only [List.getElem_toArray,List.getElem_cons_succ,List.getElem_cons_zero,Act.put,List.setIfInBounds_toArray,List.set_cons_zero,List.set_cons_succ]
 have hy2:=hy1.trans (hbb2.mono hy1.size)
 refine wpAnyH_take (i:=10) (v:=_) rfl (by kernel_rfl) (by kernel_rfl) (by kernel_rfl) (fun _ _ _ h=>h) (Or.inl ⟨by rfl,fun w5 hSw=>(by (try dsimp only at hSw);go_simp;try with_reducible rfl)⟩) hH2 ?_
 try simp only [List.getElem_toArray,List.getElem_cons_succ,List.getElem_cons_zero,Act.put,List.setIfInBounds_toArray,List.set_cons_zero,List.set_cons_succ]
 have zrow:=(hy2.block _ (Array.getElem?_eq_some_iff.1 HZ5.out).1).trans HZ5.out
 have z0:y2.cell? ⟨w.heap.size+2,0,none⟩=some (.string ⟨#[]⟩):=cellAt zrow rfl
 have zf0:=frozen_of_row _ _ 0 _ _ zrow
 have z1:y2.cell? ⟨w.heap.size+2,1,none⟩=some (.int .i64 0):=cellAt zrow rfl
 have zf1:=frozen_of_row _ _ 1 _ _ zrow
 have z2:y2.cell? ⟨w.heap.size+2,2,none⟩=some (.string ⟨#[]⟩):=cellAt zrow rfl
 have zf2:=frozen_of_row _ _ 2 _ _ zrow
 have z3:y2.cell? ⟨w.heap.size+2,3,none⟩=some (.int .i64 0):=cellAt zrow rfl
 have zf3:=frozen_of_row _ _ 3 _ _ zrow
 have z4:y2.cell? ⟨w.heap.size+2,4,none⟩=some (.int .i64 0):=cellAt zrow rfl
 have zf4:=frozen_of_row _ _ 4 _ _ zrow
 have z5:y2.cell? ⟨w.heap.size+2,5,none⟩=some (.int .i64 0):=cellAt zrow rfl
 have zf5:=frozen_of_row _ _ 5 _ _ zrow
 have z6:y2.cell? ⟨w.heap.size+2,6,none⟩=some (.string ⟨#[]⟩):=cellAt zrow rfl
 have zf6:=frozen_of_row _ _ 6 _ _ zrow
 have z7:y2.cell? ⟨w.heap.size+2,7,none⟩=some (.string ⟨#[]⟩):=cellAt zrow rfl
 have zf7:=frozen_of_row _ _ 7 _ _ zrow
 have z8:y2.cell? ⟨w.heap.size+2,8,none⟩=some (.int .i64 0):=cellAt zrow rfl
 have zf8:=frozen_of_row _ _ 8 _ _ zrow
 have z9:y2.cell? ⟨w.heap.size+2,9,none⟩=some (.int .i64 0):=cellAt zrow rfl
 have zf9:=frozen_of_row _ _ 9 _ _ zrow
 have z10:y2.cell? ⟨w.heap.size+2,10,none⟩=some (.slice none 0 0):=cellAt zrow rfl
 have zf10:=frozen_of_row _ _ 10 _ _ zrow
 refine wpAnyH_ready (rs:=[11]) (by kernel_rfl) (by simp) ?_
 refine AllReadyH.cons rfl (fun K5 hK5=>?_) AllReadyH.nil
 go_simp
 have hrow:=(hy2.block _ (Array.getElem?_eq_some_iff.1 HR5.out).1).trans HR5.out
 have hmrow:=(hy2.block _ (Array.getElem?_eq_some_iff.1 HM5.out).1).trans HM5.out
 have hc:=(((((((((((pb.setCell (p:=⟨w.heap.size+2,0,none⟩) (by simp) (.string (textOf l kPath (cutOne h.px h.nm).1))).setCell (p:=⟨w.heap.size+2,1,none⟩) (by simp) (.int .i64 (kindOfT h.typ))).setCell (p:=⟨w.heap.size+2,2,none⟩) (by simp) (.string (textOf l kLink h.lk))).setCell (p:=⟨w.heap.size+2,3,none⟩) (by simp) (.int .i64 h.mode)).setCell (p:=⟨w.heap.size+2,4,none⟩) (by simp) (.int .i64 (numOf l kUid h.uid))).setCell (p:=⟨w.heap.size+2,5,none⟩) (by simp) (.int .i64 (numOf l kGid h.gid))).setCell (p:=⟨w.heap.size+2,6,none⟩) (by simp) (.string (textOf l kUname h.user))).setCell (p:=⟨w.heap.size+2,7,none⟩) (by simp) (.string (textOf l kGname h.group))).setCell (p:=⟨w.heap.size+2,8,none⟩) (by simp) (.int .i64 (timeR l h.time).1)).setCell (p:=⟨w.heap.size+2,9,none⟩) (by simp) (.int .i64 (timeR l h.time).2)).setCell (p:=⟨w.heap.size+2,10,none⟩) (by simp) (.slice da d.length dcap))
 have hr:=((heap_setCell_other _ ⟨w.heap.size+2,10,none⟩ w.heap.size (.slice da d.length dcap) (by simp)).trans ((heap_setCell_other _ ⟨w.heap.size+2,9,none⟩ w.heap.size (.int .i64 (timeR l h.time).2) (by simp)).trans ((heap_setCell_other _ ⟨w.heap.size+2,8,none⟩ w.heap.size (.int .i64 (timeR l h.time).1) (by simp)).trans ((heap_setCell_other _ ⟨w.heap.size+2,7,none⟩ w.heap.size (.string (textOf l kGname h.group)) (by simp)).trans ((heap_setCell_other _ ⟨w.heap.size+2,6,none⟩ w.heap.size (.string (textOf l kUname h.user)) (by simp)).trans ((heap_setCell_other _ ⟨w.heap.size+2,5,none⟩ w.heap.size (.int .i64 (numOf l kGid h.gid)) (by simp)).trans ((heap_setCell_other _ ⟨w.heap.size+2,4,none⟩ w.heap.size (.int .i64 (numOf l kUid h.uid)) (by simp)).trans ((heap_setCell_other _ ⟨w.heap.size+2,3,none⟩ w.heap.size (.int .i64 h.mode) (by simp)).trans ((heap_setCell_other _ ⟨w.heap.size+2,2,none⟩ w.heap.size (.string (textOf l kLink h.lk)) (by simp)).trans ((heap_setCell_other _ ⟨w.heap.size+2,1,none⟩ w.heap.size (.int .i64 (kindOfT h.typ)) (by simp)).trans ((heap_setCell_other _ ⟨w.heap.size+2,0,none⟩ w.heap.size (.string (textOf l kPath (cutOne h.px h.nm).1)) (by simp)).trans hrow)))))))))))
 have hmr:=((heap_setCell_other _ ⟨w.heap.size+2,10,none⟩ bm (.slice da d.length dcap) (by simp;omega)).trans ((heap_setCell_other _ ⟨w.heap.size+2,9,none⟩ bm (.int .i64 (timeR l h.time).2) (by simp;omega)).trans ((heap_setCell_other _ ⟨w.heap.size+2,8,none⟩ bm (.int .i64 (timeR l h.time).1) (by simp;omega)).trans ((heap_setCell_other _ ⟨w.heap.size+2,7,none⟩ bm (.string (textOf l kGname h.group)) (by simp;omega)).trans ((heap_setCell_other _ ⟨w.heap.size+2,6,none⟩ bm (.string (textOf l kUname h.user)) (by simp;omega)).trans ((heap_setCell_other _ ⟨w.heap.size+2,5,none⟩ bm (.int .i64 (numOf l kGid h.gid)) (by simp;omega)).trans ((heap_setCell_other _ ⟨w.heap.size+2,4,none⟩ bm (.int .i64 (numOf l kUid h.uid)) (by simp;omega)).trans ((heap_setCell_other _ ⟨w.heap.size+2,3,none⟩ bm (.int .i64 h.mode) (by simp;omega)).trans ((heap_setCell_other _ ⟨w.heap.size+2,2,none⟩ bm (.string (textOf l kLink h.lk)) (by simp;omega)).trans ((heap_setCell_other _ ⟨w.heap.size+2,1,none⟩ bm (.int .i64 (kindOfT h.typ)) (by simp;omega)).trans ((heap_setCell_other _ ⟨w.heap.size+2,0,none⟩ bm (.string (textOf l kPath (cutOne h.px h.nm).1)) (by simp;omega)).trans hmrow)))))))))))
 have hzz:=(heap_setCell_same _ _ 10 _ _ (.slice da d.length dcap) (heap_setCell_same _ _ 9 _ _ (.int .i64 (timeR l h.time).2) (heap_setCell_same _ _ 8 _ _ (.int .i64 (timeR l h.time).1) (heap_setCell_same _ _ 7 _ _ (.string (textOf l kGname h.group)) (heap_setCell_same _ _ 6 _ _ (.string (textOf l kUname h.user)) (heap_setCell_same _ _ 5 _ _ (.int .i64 (numOf l kGid h.gid)) (heap_setCell_same _ _ 4 _ _ (.int .i64 (numOf l kUid h.uid)) (heap_setCell_same _ _ 3 _ _ (.int .i64 h.mode) (heap_setCell_same _ _ 2 _ _ (.string (textOf l kLink h.lk)) (heap_setCell_same _ _ 1 _ _ (.int .i64 (kindOfT h.typ)) (heap_setCell_same _ _ 0 _ _ (.string (textOf l kPath (cutOne h.px h.nm).1)) zrow)))))))))))
 refine hK5.out _ _ (⟨cellAt hr rfl,cellAt hmr rfl,cellAt hmr rfl,cellAt hmr rfl,cellAt hmr rfl,cellAt hmr rfl,cellAt hmr rfl,cellAt hmr rfl,hc⟩) (fun hG9=>?_)
 clear hK5 K5
 try simp only [List.getElem_toArray,List.getElem_cons_succ,List.getElem_cons_zero,Act.put,List.setIfInBounds_toArray,List.set_cons_zero,List.set_cons_succ]
 refine wpAnyH_done (by kernel_rfl) ?_ _
 refine NoPanic.normal ?_
 go_wp2_with fail
 (try simp only [Exit.inBlock,Exit.then])
 refine bodyPost_ret (v := .agg #[.string (textOf l kPath (cutOne h.px h.nm).1),.int .i64 (kindOfT h.typ),.string (textOf l kLink h.lk),.int .i64 h.mode,.int .i64 (numOf l kUid h.uid),.int .i64 (numOf l kGid h.gid),.string (textOf l kUname h.user),.string (textOf l kGname h.group),.int .i64 (timeR l h.time).1,.int .i64 (timeR l h.time).2,.slice da d.length dcap]) (by rw [results_cell1 rfl];go_simp) rfl ?_
 exact ⟨rfl,hc⟩
end Go.Proofs.YtaffgndickdbiaaGreatDoor
