/-
  Texts: Block, KindMap.
-/
import Derived.Test.YtaffgndickdbiaaGreatDoorR29
set_option linter.unusedVariables false
set_option linter.unusedSimpArgs false
set_option linter.unusedSectionVars false
namespace Go.Creel
open Go.RowKit
theorem results_cell_tmp4 {fn : Func} {p u x y : Tmp} {ty : TypeId} (h : fn.results = #[.cell p ty, .tmp u, .tmp x, .tmp y]) (tmps : Array Value) (P : Program) (w : World) :
    (results fn tmps).run P w =
      ((asAddr (tmps.getD p undef)).run P w).andThen fun a w₁ => ((loadVar ty a).run P w₁).andThen fun v w₂ => .ok (.tuple #[v, tmps.getD u undef, tmps.getD x undef, tmps.getD y undef]) w₂ := by
  simp only [results, h]
  simp [Sem.run_bind, Result.andThen]
def RetBlk (t : TypeId) (vh : HeadN → Value) (w : World) (p : HeadN × List UInt8 × List UInt8 × Int) (e : Ending) (w' : World) : Prop :=
  ∃ v u, e = .returned (.tuple #[vh p.1, v, u, .int .i64 p.2.2.2]) ∧ OwnBs t w' w.heap.size v p.2.1 ∧ OwnBs t w' w.heap.size u p.2.2.1 ∧ Below w.heap.size w w'
end Go.Creel
namespace Go.Proofs.YtaffgndickdbiaaGreatDoor
open Go.Creel Go.RowKit
set_option maxRecDepth 100000 in
set_option maxHeartbeats 400000 in
theorem Block_short (v : Value) (b : List UInt8) (w : World) (h : SliceC maxLen 1 ByteC w [v] b) (hs : b.length < 512) :
    Calls Tryz.prog 50 #[v] w (RetBlk 5 HeadN.val' w (blockOf b)) := by
  obtain ⟨a, cap, hv⟩ : ∃ a cap, v = .slice a b.length cap := by
    obtain ⟨a, cap, hv, _⟩ := h
    exact ⟨a, cap, by simpa using hv⟩
  subst hv
  have HF := Lib.hid (blockOf_short hs)
  have HBZ := Lib.hid ((Below.refl w.heap.size w).alloc (Nat.le_refl _) (.cells #[.string ⟨#[]⟩, .string ⟨#[]⟩, .string ⟨#[]⟩, .int .i64 0, .int .i64 0, .int .i64 0, .int .i64 0, .int .i64 0, .int .u8 0, .string ⟨#[]⟩, .string ⟨#[]⟩] 62))
  clear h
  go_enter Tryz.func50, Tryz.ntmps50
  go_wp2
  (try simp only [Exit.inBlock, Exit.then])
  refine bodyPost_ret (v := .tuple #[.agg #[.string ⟨#[]⟩, .string ⟨#[]⟩, .string ⟨#[]⟩, .int .i64 0, .int .i64 0, .int .i64 0, .int .i64 0, .int .i64 0, .int .u8 0, .string ⟨#[]⟩, .string ⟨#[]⟩], .slice none 0 0, .slice none 0 0, .int .i64 7]) (by rw [results_cell_tmp4 rfl]; go_simp) rfl ?_
  rw [HF.out]
  exact ⟨_, _, rfl, OwnBs.nil _ _ _, OwnBs.nil _ _ _, HBZ.out⟩
set_option maxRecDepth 100000 in
set_option maxHeartbeats 400000 in
theorem Block_head (v : Value) (b : List UInt8) (w : World) (h : SliceC maxLen 1 ByteC w [v] b) (hs : ¬ b.length < 512) (hh : ¬ (head512 b).2 = 0) :
    Calls Tryz.prog 50 #[v] w (RetBlk 5 HeadN.val' w (blockOf b)) := by
  obtain ⟨a, cap, hv, hcp⟩ := bytes_form h
  subst hv
  have hcm : cap ≤ maxLen := by obtain ⟨_, _, hv, _, h2, _⟩ := h; simp only [List.cons.injEq, Value.slice.injEq, and_true] at hv; omega
  have hsl : ∀ W : World, (Instr.slice 24 (.slice a b.length cap) none (some (.int .i64 512)) none).run Tryz.prog W = .ok (.slice a 512 cap) W := fun W => run_takeB W a b.length cap 512 (by omega) hcp
  have H := Lib.hid h
  have hTK := bytes_take (i := 512) h (by omega)
  have HBZ := Lib.hid ((Below.refl w.heap.size w).alloc (Nat.le_refl _) (.cells #[.string ⟨#[]⟩, .string ⟨#[]⟩, .string ⟨#[]⟩, .int .i64 0, .int .i64 0, .int .i64 0, .int .i64 0, .int .i64 0, .int .u8 0, .string ⟨#[]⟩, .string ⟨#[]⟩] 62))
  have HRZ : Hid ((w.alloc (.cells #[.string ⟨#[]⟩, .string ⟨#[]⟩, .string ⟨#[]⟩, .int .i64 0, .int .i64 0, .int .i64 0, .int .i64 0, .int .i64 0, .int .u8 0, .string ⟨#[]⟩, .string ⟨#[]⟩] 62)).heap[w.heap.size]? = some (.cells #[.string ⟨#[]⟩, .string ⟨#[]⟩, .string ⟨#[]⟩, .int .i64 0, .int .i64 0, .int .i64 0, .int .i64 0, .int .i64 0, .int .u8 0, .string ⟨#[]⟩, .string ⟨#[]⟩] 62 (0, 0))) := Lib.hid (heap_alloc_new _ _)
  have hlen : (b.take 512).length = 512 := by rw [List.length_take]; omega
  have hTK2 : SliceC maxLen 1 ByteC (w.alloc (.cells #[.string ⟨#[]⟩, .string ⟨#[]⟩, .string ⟨#[]⟩, .int .i64 0, .int .i64 0, .int .i64 0, .int .i64 0, .int .i64 0, .int .u8 0, .string ⟨#[]⟩, .string ⟨#[]⟩] 62)) [.slice a (b.take 512).length cap] (b.take 512) := by rw [hlen]; exact hTK.below (fun _ _ h => h) HBZ.out
  have hcv := conv (w.alloc (.cells #[.string ⟨#[]⟩, .string ⟨#[]⟩, .string ⟨#[]⟩, .int .i64 0, .int .i64 0, .int .i64 0, .int .i64 0, .int .i64 0, .int .u8 0, .string ⟨#[]⟩, .string ⟨#[]⟩] 62)) hTK2
  rw [hlen] at hcv
  have HHR := Lib.hid (fun W => HeadRead_any (ofL (b.take 512)) W (by rw [ofL_size, hlen]; decide))
  have HF := Lib.hid (blockOf_head hs hh)
  have HP : Hid (headOf (ofL (b.take 512)) = head512 b) := Lib.hid rfl
  rw [HP.out] at HHR
  generalize head512 b = p at *
  obtain ⟨hd, e0⟩ := p
  simp only at hh HF HHR
  have hq : (e0 != 0) = true := by rw [bne_iff_ne]; exact hh
  have hls : ¬ ((b.length : Int) < 512) := by omega
  clear h hTK hTK2 hh hs
  go_enter Tryz.func50, Tryz.ntmps50
  go_wp2_with fail
  refine (HHR.out _).mono ?_
  rintro e w1 ⟨rfl, hb⟩
  have HB1 := Lib.hid (HBZ.out.trans (hb.mono HBZ.out.size))
  have HR1 := Lib.hid ((hb.block _ (Array.getElem?_eq_some_iff.1 HRZ.out).1).trans HRZ.out)
  have hlr := (Array.getElem?_eq_some_iff.1 HR1.out).1
  clear hb HRZ
  have r0 : w1.cell? ⟨w.heap.size, 0, none⟩ = some (.string ⟨#[]⟩) := by rw [cell_of_row w1 w.heap.size 0 _ _ (0, 0) HR1.out]; rfl
  have r1 : w1.cell? ⟨w.heap.size, 1, none⟩ = some (.string ⟨#[]⟩) := by rw [cell_of_row w1 w.heap.size 1 _ _ (0, 0) HR1.out]; rfl
  have r2 : w1.cell? ⟨w.heap.size, 2, none⟩ = some (.string ⟨#[]⟩) := by rw [cell_of_row w1 w.heap.size 2 _ _ (0, 0) HR1.out]; rfl
  have r3 : w1.cell? ⟨w.heap.size, 3, none⟩ = some (.int .i64 0) := by rw [cell_of_row w1 w.heap.size 3 _ _ (0, 0) HR1.out]; rfl
  have r4 : w1.cell? ⟨w.heap.size, 4, none⟩ = some (.int .i64 0) := by rw [cell_of_row w1 w.heap.size 4 _ _ (0, 0) HR1.out]; rfl
  have r5 : w1.cell? ⟨w.heap.size, 5, none⟩ = some (.int .i64 0) := by rw [cell_of_row w1 w.heap.size 5 _ _ (0, 0) HR1.out]; rfl
  have r6 : w1.cell? ⟨w.heap.size, 6, none⟩ = some (.int .i64 0) := by rw [cell_of_row w1 w.heap.size 6 _ _ (0, 0) HR1.out]; rfl
  have r7 : w1.cell? ⟨w.heap.size, 7, none⟩ = some (.int .i64 0) := by rw [cell_of_row w1 w.heap.size 7 _ _ (0, 0) HR1.out]; rfl
  have r8 : w1.cell? ⟨w.heap.size, 8, none⟩ = some (.int .u8 0) := by rw [cell_of_row w1 w.heap.size 8 _ _ (0, 0) HR1.out]; rfl
  have r9 : w1.cell? ⟨w.heap.size, 9, none⟩ = some (.string ⟨#[]⟩) := by rw [cell_of_row w1 w.heap.size 9 _ _ (0, 0) HR1.out]; rfl
  have r10 : w1.cell? ⟨w.heap.size, 10, none⟩ = some (.string ⟨#[]⟩) := by rw [cell_of_row w1 w.heap.size 10 _ _ (0, 0) HR1.out]; rfl
  have f0 := frozen_of_row w1 w.heap.size 0 _ _ HR1.out
  have f1 := frozen_of_row w1 w.heap.size 1 _ _ HR1.out
  have f2 := frozen_of_row w1 w.heap.size 2 _ _ HR1.out
  have f3 := frozen_of_row w1 w.heap.size 3 _ _ HR1.out
  have f4 := frozen_of_row w1 w.heap.size 4 _ _ HR1.out
  have f5 := frozen_of_row w1 w.heap.size 5 _ _ HR1.out
  have f6 := frozen_of_row w1 w.heap.size 6 _ _ HR1.out
  have f7 := frozen_of_row w1 w.heap.size 7 _ _ HR1.out
  have f8 := frozen_of_row w1 w.heap.size 8 _ _ HR1.out
  have f9 := frozen_of_row w1 w.heap.size 9 _ _ HR1.out
  have f10 := frozen_of_row w1 w.heap.size 10 _ _ HR1.out
  go_upto_region 4 with fail
  have hne : w.heap.size ≠ w1.heap.size := by omega
  go_wp2
  (try simp only [Exit.inBlock, Exit.then])
  refine bodyPost_ret (v := .tuple #[.agg #[.string ⟨#[]⟩, .string ⟨#[]⟩, .string ⟨#[]⟩, .int .i64 0, .int .i64 0, .int .i64 0, .int .i64 0, .int .i64 0, .int .u8 0, .string ⟨#[]⟩, .string ⟨#[]⟩], .slice none 0 0, .slice none 0 0, .int .i64 e0]) (by rw [results_cell_tmp4 rfl]; go_simp) rfl ?_
  rw [HF.out]
  have X := Lib.hid ((((((((((((HB1.out.setCell (p := ⟨w.heap.size, 0, none⟩) (Nat.le_refl _) (.string ⟨#[]⟩)).setCell (p := ⟨w.heap.size, 1, none⟩) (Nat.le_refl _) (.string ⟨#[]⟩)).setCell (p := ⟨w.heap.size, 2, none⟩) (Nat.le_refl _) (.string ⟨#[]⟩)).setCell (p := ⟨w.heap.size, 3, none⟩) (Nat.le_refl _) (.int .i64 0)).setCell (p := ⟨w.heap.size, 4, none⟩) (Nat.le_refl _) (.int .i64 0)).setCell (p := ⟨w.heap.size, 5, none⟩) (Nat.le_refl _) (.int .i64 0)).setCell (p := ⟨w.heap.size, 6, none⟩) (Nat.le_refl _) (.int .i64 0)).setCell (p := ⟨w.heap.size, 7, none⟩) (Nat.le_refl _) (.int .i64 0)).setCell (p := ⟨w.heap.size, 8, none⟩) (Nat.le_refl _) (.int .u8 0)).setCell (p := ⟨w.heap.size, 9, none⟩) (Nat.le_refl _) (.string ⟨#[]⟩)).setCell (p := ⟨w.heap.size, 10, none⟩) (Nat.le_refl _) (.string ⟨#[]⟩)))
  exact ⟨_, _, rfl, OwnBs.nil _ _ _, OwnBs.nil _ _ _, X.out.alloc X.out.size _⟩
set_option maxRecDepth 100000 in
set_option maxHeartbeats 400000 in
theorem Block_ok (v : Value) (b : List UInt8) (w : World) (h : SliceC maxLen 1 ByteC w [v] b) (hbl : b.length ≤ 1048576) (hs : ¬ b.length < 512) (hh : (head512 b).2 = 0) :
    Calls Tryz.prog 50 #[v] w (RetBlk 5 HeadN.val' w (blockOf b)) := by
  obtain ⟨a, cap, hv, hcp⟩ := bytes_form h
  subst hv
  have hcm : cap ≤ maxLen := by obtain ⟨_, _, hv, _, h2, _⟩ := h; simp only [List.cons.injEq, Value.slice.injEq, and_true] at hv; omega
  have hsl : ∀ W : World, (Instr.slice 24 (.slice a b.length cap) none (some (.int .i64 512)) none).run Tryz.prog W = .ok (.slice a 512 cap) W := fun W => run_takeB W a b.length cap 512 (by omega) hcp
  have H := Lib.hid h
  have hTK := bytes_take (i := 512) h (by omega)
  have HBZ := Lib.hid ((Below.refl w.heap.size w).alloc (Nat.le_refl _) (.cells #[.string ⟨#[]⟩, .string ⟨#[]⟩, .string ⟨#[]⟩, .int .i64 0, .int .i64 0, .int .i64 0, .int .i64 0, .int .i64 0, .int .u8 0, .string ⟨#[]⟩, .string ⟨#[]⟩] 62))
  have HRZ : Hid ((w.alloc (.cells #[.string ⟨#[]⟩, .string ⟨#[]⟩, .string ⟨#[]⟩, .int .i64 0, .int .i64 0, .int .i64 0, .int .i64 0, .int .i64 0, .int .u8 0, .string ⟨#[]⟩, .string ⟨#[]⟩] 62)).heap[w.heap.size]? = some (.cells #[.string ⟨#[]⟩, .string ⟨#[]⟩, .string ⟨#[]⟩, .int .i64 0, .int .i64 0, .int .i64 0, .int .i64 0, .int .i64 0, .int .u8 0, .string ⟨#[]⟩, .string ⟨#[]⟩] 62 (0, 0))) := Lib.hid (heap_alloc_new _ _)
  have hlen : (b.take 512).length = 512 := by rw [List.length_take]; omega
  have hTK2 : SliceC maxLen 1 ByteC (w.alloc (.cells #[.string ⟨#[]⟩, .string ⟨#[]⟩, .string ⟨#[]⟩, .int .i64 0, .int .i64 0, .int .i64 0, .int .i64 0, .int .i64 0, .int .u8 0, .string ⟨#[]⟩, .string ⟨#[]⟩] 62)) [.slice a (b.take 512).length cap] (b.take 512) := by rw [hlen]; exact hTK.below (fun _ _ h => h) HBZ.out
  have hcv := conv (w.alloc (.cells #[.string ⟨#[]⟩, .string ⟨#[]⟩, .string ⟨#[]⟩, .int .i64 0, .int .i64 0, .int .i64 0, .int .i64 0, .int .i64 0, .int .u8 0, .string ⟨#[]⟩, .string ⟨#[]⟩] 62)) hTK2
  rw [hlen] at hcv
  have HHR := Lib.hid (fun W => HeadRead_any (ofL (b.take 512)) W (by rw [ofL_size, hlen]; decide))
  have HF := Lib.hid (blockOf_cut hs hh)
  have HP : Hid (headOf (ofL (b.take 512)) = head512 b) := Lib.hid rfl
  have hsz := head512_size b
  have hs2 : ∀ W : World, (Instr.slice 24 (.slice a b.length cap) (some (.int .i64 512)) none none).run Tryz.prog W = .ok (sliced a 512 b.length cap 1) W := fun W => run_dropB W a b.length cap 512 (by omega) hcp
  have HDR := Lib.hid (bytes_drop (i := 512) h (by omega))
  have hdl : (b.drop 512).length ≤ 1048576 := by rw [List.length_drop]; omega
  have HPC0 := Lib.hid (fun v W h => PadCutL_any (N := maxLen) v (b.drop 512) (head512 b).1.size W (by unfold i64; omega) h hdl)
  rw [HP.out] at HHR
  generalize sliced a 512 b.length cap 1 = sl at *
  generalize head512 b = p at *
  obtain ⟨hd, e0⟩ := p
  simp only at hh HF HHR hsz HPC0
  subst hh
  generalize padCut (b.drop 512) hd.size = pc at *
  obtain ⟨p1, p2, p3⟩ := pc
  have hls : ¬ ((b.length : Int) < 512) := by omega
  clear h hTK hTK2 hs
  go_enter Tryz.func50, Tryz.ntmps50
  go_wp2_with fail
  refine (HHR.out _).mono ?_
  rintro e w1 ⟨rfl, hb⟩
  have HB1 := Lib.hid (HBZ.out.trans (hb.mono HBZ.out.size))
  have HR1 := Lib.hid ((hb.block _ (Array.getElem?_eq_some_iff.1 HRZ.out).1).trans HRZ.out)
  have hlr := (Array.getElem?_eq_some_iff.1 HR1.out).1
  clear hb HRZ
  go_upto_region 6 with fail
  have HA := Lib.hid ((Below.refl w1.heap.size w1).alloc (Nat.le_refl _) (.cells #[.string hd.nm, .string hd.px, .string hd.lk, .int .i64 hd.mode, .int .i64 hd.uid, .int .i64 hd.gid, .int .i64 hd.size, .int .i64 hd.time, .int .u8 hd.typ.toNat, .string hd.user, .string hd.group] 62))
  have HB2 := Lib.hid (HB1.out.trans (HA.out.mono HB1.out.size))
  have HD2 : Hid ((w1.alloc (.cells #[.string hd.nm, .string hd.px, .string hd.lk, .int .i64 hd.mode, .int .i64 hd.uid, .int .i64 hd.gid, .int .i64 hd.size, .int .i64 hd.time, .int .u8 hd.typ.toNat, .string hd.user, .string hd.group] 62)).heap[w1.heap.size]? = some (.cells #[.string hd.nm, .string hd.px, .string hd.lk, .int .i64 hd.mode, .int .i64 hd.uid, .int .i64 hd.gid, .int .i64 hd.size, .int .i64 hd.time, .int .u8 hd.typ.toNat, .string hd.user, .string hd.group] 62 (0, 0))) := Lib.hid (heap_alloc_new _ _)
  have HR2 := Lib.hid ((HA.out.block _ hlr).trans HR1.out)
  have hne : w.heap.size ≠ w1.heap.size := by omega
  generalize w1.heap.size = bh at *
  generalize w1.alloc (.cells #[.string hd.nm, .string hd.px, .string hd.lk, .int .i64 hd.mode, .int .i64 hd.uid, .int .i64 hd.gid, .int .i64 hd.size, .int .i64 hd.time, .int .u8 hd.typ.toNat, .string hd.user, .string hd.group] 62) = w2 at *
  clear HA HB1 HR1 hlr
  have hbh := (Array.getElem?_eq_some_iff.1 HD2.out).1
  have hc6 : w2.cell? ⟨bh, 6, none⟩ = some (.int .i64 hd.size) := by rw [cell_of_row w2 bh 6 _ _ (0, 0) HD2.out]; rfl
  have HPC := Lib.hid (fun W (hB : Below w2.heap.size w2 W) => show Calls Tryz.prog 118 #[sl, .int .i64 hd.size] W (fun e w' => ∃ v1 v2, e = .returned (.tuple #[v1, v2, .int .i64 p3]) ∧ Hid (OwnBs 5 w' w2.heap.size v1 p1) ∧ Hid (OwnBs 5 w' w2.heap.size v2 p2) ∧ w'.cell? ⟨bh, 6, none⟩ = some (.int .i64 hd.size) ∧ Below w2.heap.size w2 w') from
    (HPC0.out sl W (HDR.out.below (fun _ _ h => h) (HB2.out.trans (hB.mono HB2.out.size)))).mono fun e w' hx => by
      obtain ⟨v1, v2, h1, h2, h3, h4⟩ := hx
      have hb2 := hB.trans (h4.mono hB.size)
      exact ⟨v1, v2, h1, Lib.hid (h2.mono hB.size), Lib.hid (h3.mono hB.size), by rw [cell_of_row w' bh 6 _ _ (0, 0) ((hb2.block bh hbh).trans HD2.out)]; rfl, hb2⟩)
  have hdrw := (Below.refl w2.heap.size w2).drew
  go_cut [7, 8, 9] from 25 to 33 (fun u7 u8 u9 wy => u7 = .int .i64 p3 ∧ Hid (OwnBs 5 wy w2.heap.size u8 p1) ∧ Hid (OwnBs 5 wy w2.heap.size u9 p2) ∧ Hid (Below w2.heap.size w2 wy))
  case first =>
    go_region_held3 (fun w' => w'.cell? ⟨bh, 6, none⟩ = some (.int .i64 hd.size) ∧ Below w2.heap.size w2 w') (go_keep)
      (first | (go_at_call 118; refine (HPC.out _ ?_).mono ?_; (simp [*]); rintro e w3 ⟨v1, v2, rfl, ho1, ho2, r6, hb3⟩))
    go_wp2_with fail
    go_meet
    case rel => exact ⟨rfl, ho1, ho2, Lib.hid hb3⟩
  case rest =>
  obtain ⟨rfl, HO1, HO2, HB3⟩ := hcut
  obtain ⟨w3, rfl⟩ : ∃ W : World, W = wc := ⟨_, rfl⟩
  have HD3 := Lib.hid ((HB3.out.block _ hbh).trans HD2.out)
  have HR3 := Lib.hid ((HB3.out.block _ (Array.getElem?_eq_some_iff.1 HR2.out).1).trans HR2.out)
  have HBW := Lib.hid (HB2.out.trans (HB3.out.mono HB2.out.size))
  have hrl : w.heap.size < w2.heap.size := (Array.getElem?_eq_some_iff.1 HR2.out).1
  clear HPC HPC0 HR2 HD2 hc6 hdrw HDR
  have r0 : w3.cell? ⟨w.heap.size, 0, none⟩ = some (.string ⟨#[]⟩) := by rw [cell_of_row w3 w.heap.size 0 _ _ (0, 0) HR3.out]; rfl
  have r1 : w3.cell? ⟨w.heap.size, 1, none⟩ = some (.string ⟨#[]⟩) := by rw [cell_of_row w3 w.heap.size 1 _ _ (0, 0) HR3.out]; rfl
  have r2 : w3.cell? ⟨w.heap.size, 2, none⟩ = some (.string ⟨#[]⟩) := by rw [cell_of_row w3 w.heap.size 2 _ _ (0, 0) HR3.out]; rfl
  have r3 : w3.cell? ⟨w.heap.size, 3, none⟩ = some (.int .i64 0) := by rw [cell_of_row w3 w.heap.size 3 _ _ (0, 0) HR3.out]; rfl
  have r4 : w3.cell? ⟨w.heap.size, 4, none⟩ = some (.int .i64 0) := by rw [cell_of_row w3 w.heap.size 4 _ _ (0, 0) HR3.out]; rfl
  have r5 : w3.cell? ⟨w.heap.size, 5, none⟩ = some (.int .i64 0) := by rw [cell_of_row w3 w.heap.size 5 _ _ (0, 0) HR3.out]; rfl
  have r6 : w3.cell? ⟨w.heap.size, 6, none⟩ = some (.int .i64 0) := by rw [cell_of_row w3 w.heap.size 6 _ _ (0, 0) HR3.out]; rfl
  have r7 : w3.cell? ⟨w.heap.size, 7, none⟩ = some (.int .i64 0) := by rw [cell_of_row w3 w.heap.size 7 _ _ (0, 0) HR3.out]; rfl
  have r8 : w3.cell? ⟨w.heap.size, 8, none⟩ = some (.int .u8 0) := by rw [cell_of_row w3 w.heap.size 8 _ _ (0, 0) HR3.out]; rfl
  have r9 : w3.cell? ⟨w.heap.size, 9, none⟩ = some (.string ⟨#[]⟩) := by rw [cell_of_row w3 w.heap.size 9 _ _ (0, 0) HR3.out]; rfl
  have r10 : w3.cell? ⟨w.heap.size, 10, none⟩ = some (.string ⟨#[]⟩) := by rw [cell_of_row w3 w.heap.size 10 _ _ (0, 0) HR3.out]; rfl
  have f0 := frozen_of_row w3 w.heap.size 0 _ _ HR3.out
  have f1 := frozen_of_row w3 w.heap.size 1 _ _ HR3.out
  have f2 := frozen_of_row w3 w.heap.size 2 _ _ HR3.out
  have f3 := frozen_of_row w3 w.heap.size 3 _ _ HR3.out
  have f4 := frozen_of_row w3 w.heap.size 4 _ _ HR3.out
  have f5 := frozen_of_row w3 w.heap.size 5 _ _ HR3.out
  have f6 := frozen_of_row w3 w.heap.size 6 _ _ HR3.out
  have f7 := frozen_of_row w3 w.heap.size 7 _ _ HR3.out
  have f8 := frozen_of_row w3 w.heap.size 8 _ _ HR3.out
  have f9 := frozen_of_row w3 w.heap.size 9 _ _ HR3.out
  have f10 := frozen_of_row w3 w.heap.size 10 _ _ HR3.out
  have c0 : w3.cell? ⟨bh, 0, none⟩ = some (.string hd.nm) := by rw [cell_of_row w3 bh 0 _ _ (0, 0) HD3.out]; rfl
  have c1 : w3.cell? ⟨bh, 1, none⟩ = some (.string hd.px) := by rw [cell_of_row w3 bh 1 _ _ (0, 0) HD3.out]; rfl
  have c2 : w3.cell? ⟨bh, 2, none⟩ = some (.string hd.lk) := by rw [cell_of_row w3 bh 2 _ _ (0, 0) HD3.out]; rfl
  have c3 : w3.cell? ⟨bh, 3, none⟩ = some (.int .i64 hd.mode) := by rw [cell_of_row w3 bh 3 _ _ (0, 0) HD3.out]; rfl
  have c4 : w3.cell? ⟨bh, 4, none⟩ = some (.int .i64 hd.uid) := by rw [cell_of_row w3 bh 4 _ _ (0, 0) HD3.out]; rfl
  have c5 : w3.cell? ⟨bh, 5, none⟩ = some (.int .i64 hd.gid) := by rw [cell_of_row w3 bh 5 _ _ (0, 0) HD3.out]; rfl
  have c6 : w3.cell? ⟨bh, 6, none⟩ = some (.int .i64 hd.size) := by rw [cell_of_row w3 bh 6 _ _ (0, 0) HD3.out]; rfl
  have c7 : w3.cell? ⟨bh, 7, none⟩ = some (.int .i64 hd.time) := by rw [cell_of_row w3 bh 7 _ _ (0, 0) HD3.out]; rfl
  have c8 : w3.cell? ⟨bh, 8, none⟩ = some (.int .u8 hd.typ.toNat) := by rw [cell_of_row w3 bh 8 _ _ (0, 0) HD3.out]; rfl
  have c9 : w3.cell? ⟨bh, 9, none⟩ = some (.string hd.user) := by rw [cell_of_row w3 bh 9 _ _ (0, 0) HD3.out]; rfl
  have c10 : w3.cell? ⟨bh, 10, none⟩ = some (.string hd.group) := by rw [cell_of_row w3 bh 10 _ _ (0, 0) HD3.out]; rfl
  have hne2 : bh ≠ w.heap.size := fun e => hne e.symm
  go_wp2
  (try simp only [Exit.inBlock, Exit.then])
  obtain ⟨x1, rfl⟩ : ∃ V : Value, V = u8 := ⟨_, rfl⟩
  obtain ⟨x2, rfl⟩ : ∃ V : Value, V = u9 := ⟨_, rfl⟩
  refine bodyPost_ret (v := .tuple #[HeadN.val' hd, x1, x2, .int .i64 p3]) (by rw [results_cell_tmp4 rfl]; go_simp) rfl ?_
  rw [HF.out]
  have hn1 : x1.ownBlock ≠ some w.heap.size := fun e => by have := (World.ownsRow.lt HO1.out _ e).1; omega
  have hn2 : x2.ownBlock ≠ some w.heap.size := fun e => by have := (World.ownsRow.lt HO2.out _ e).1; omega
  exact ⟨x1, x2, rfl, (ownsRow_elsewhere (j := 10) _ (ownsRow_elsewhere (j := 9) _ (ownsRow_elsewhere (j := 8) _ (ownsRow_elsewhere (j := 7) _ (ownsRow_elsewhere (j := 6) _ (ownsRow_elsewhere (j := 5) _ (ownsRow_elsewhere (j := 4) _ (ownsRow_elsewhere (j := 3) _ (ownsRow_elsewhere (j := 2) _ (ownsRow_elsewhere (j := 1) _ (ownsRow_elsewhere (j := 0) _ (HO1.out.mono (Nat.le_of_lt hrl)) hn1) hn1) hn1) hn1) hn1) hn1) hn1) hn1) hn1) hn1) hn1), (ownsRow_elsewhere (j := 10) _ (ownsRow_elsewhere (j := 9) _ (ownsRow_elsewhere (j := 8) _ (ownsRow_elsewhere (j := 7) _ (ownsRow_elsewhere (j := 6) _ (ownsRow_elsewhere (j := 5) _ (ownsRow_elsewhere (j := 4) _ (ownsRow_elsewhere (j := 3) _ (ownsRow_elsewhere (j := 2) _ (ownsRow_elsewhere (j := 1) _ (ownsRow_elsewhere (j := 0) _ (HO2.out.mono (Nat.le_of_lt hrl)) hn2) hn2) hn2) hn2) hn2) hn2) hn2) hn2) hn2) hn2) hn2), (((((((((((HBW.out.setCell (p := ⟨w.heap.size, 0, none⟩) (Nat.le_refl _) (.string hd.nm)).setCell (p := ⟨w.heap.size, 1, none⟩) (Nat.le_refl _) (.string hd.px)).setCell (p := ⟨w.heap.size, 2, none⟩) (Nat.le_refl _) (.string hd.lk)).setCell (p := ⟨w.heap.size, 3, none⟩) (Nat.le_refl _) (.int .i64 hd.mode)).setCell (p := ⟨w.heap.size, 4, none⟩) (Nat.le_refl _) (.int .i64 hd.uid)).setCell (p := ⟨w.heap.size, 5, none⟩) (Nat.le_refl _) (.int .i64 hd.gid)).setCell (p := ⟨w.heap.size, 6, none⟩) (Nat.le_refl _) (.int .i64 hd.size)).setCell (p := ⟨w.heap.size, 7, none⟩) (Nat.le_refl _) (.int .i64 hd.time)).setCell (p := ⟨w.heap.size, 8, none⟩) (Nat.le_refl _) (.int .u8 hd.typ.toNat)).setCell (p := ⟨w.heap.size, 9, none⟩) (Nat.le_refl _) (.string hd.user)).setCell (p := ⟨w.heap.size, 10, none⟩) (Nat.le_refl _) (.string hd.group))⟩
theorem Block_any (v : Value) (b : List UInt8) (w : World) (h : SliceC maxLen 1 ByteC w [v] b) (hbl : b.length ≤ 1048576) :
    Calls Tryz.prog 50 #[v] w (RetBlk 5 HeadN.val' w (blockOf b)) := by
  by_cases hs : b.length < 512
  · exact Block_short v b w h hs
  · by_cases hh : (head512 b).2 = 0
    · exact Block_ok v b w h hbl hs hh
    · exact Block_head v b w h hs hh
end Go.Proofs.YtaffgndickdbiaaGreatDoor
namespace Go.Creel
open Go.RowKit
theorem keyOn_u8 : KeyOn (.int .u8) (fun n : Int => Value.int .u8 n) where
  same a b := by simp [Instr.sameNow, Bool.beq_eq_decide_eq]
  bits a := by simp [Instr.sameBits]
  check w a h := by rw [checkKey_succ]; unfold Instr.checkKey; simp [run_underlying h, Result.andThen]
  checkE w a h := by rw [checkKey_succ]; unfold Instr.checkKey; simp [run_underlying h, Result.andThen]
theorem kindOfT_cases (c : UInt8) : (c = 48 ∧ kindOfT c = 1) ∨ (c = 53 ∧ kindOfT c = 2) ∨ (c = 50 ∧ kindOfT c = 3) ∨ (c = 49 ∧ kindOfT c = 4) ∨ ((c.toNat : Int) ≠ 48 ∧ (c.toNat : Int) ≠ 53 ∧ (c.toNat : Int) ≠ 50 ∧ (c.toNat : Int) ≠ 49 ∧ kindOfT c = 0) := by
  have hn : ∀ k : UInt8, c ≠ k → (c.toNat : Int) ≠ (k.toNat : Int) := fun k h e => h (UInt8.toNat_inj.1 (by exact_mod_cast e))
  unfold kindOfT
  by_cases h0 : c = 48
  · left; exact ⟨h0, if_pos h0⟩
  · by_cases h1 : c = 53
    · right; left; exact ⟨h1, by rw [if_neg h0, if_pos h1]⟩
    · by_cases h2 : c = 50
      · right; right; left; exact ⟨h2, by rw [if_neg h0, if_neg h1, if_pos h2]⟩
      · by_cases h3 : c = 49
        · right; right; right; left; exact ⟨h3, by rw [if_neg h0, if_neg h1, if_neg h2, if_pos h3]⟩
        · right; right; right; right
          exact ⟨hn 48 h0, hn 53 h1, hn 50 h2, hn 49 h3, by rw [if_neg h0, if_neg h1, if_neg h2, if_neg h3]⟩
def kindRow : List (Int × Value) := [(48, .int .i64 1), (53, .int .i64 2), (50, .int .i64 3), (49, .int .i64 4)]
theorem kind_look {P : Program} {t k e : TypeId} (ht : P.underlying t = some (.map k e)) (hk : P.underlying k = some (.int .u8)) (hz : ∀ w : World, (zeroValue e).run P w = .ok (.int .i64 0) w) (c : UInt8) (W : World) :
    (Instr.lookup t (.map (some W.heap.size)) (.int .u8 (c.toNat : Int)) false).run P (W.alloc (.map #[⟨.int .u8 48, .int .i64 1, 0⟩, ⟨.int .u8 53, .int .i64 2, 1⟩, ⟨.int .u8 50, .int .i64 3, 2⟩, ⟨.int .u8 49, .int .i64 4, 3⟩] 4)) =
      .ok (.int .i64 (kindOfT c)) (W.alloc (.map #[⟨.int .u8 48, .int .i64 1, 0⟩, ⟨.int .u8 53, .int .i64 2, 1⟩, ⟨.int .u8 50, .int .i64 3, 2⟩, ⟨.int .u8 49, .int .i64 4, 3⟩] 4)) := by
  have h : MapIs (fun n : Int => Value.int .u8 n) (W.alloc (.map #[⟨.int .u8 48, .int .i64 1, 0⟩, ⟨.int .u8 53, .int .i64 2, 1⟩, ⟨.int .u8 50, .int .i64 3, 2⟩, ⟨.int .u8 49, .int .i64 4, 3⟩] 4)) W.heap.size kindRow := ⟨_, _, heap_alloc_new _ _, rfl⟩
  rcases kindOfT_cases c with ⟨hc, e0⟩ | ⟨hc, e0⟩ | ⟨hc, e0⟩ | ⟨hc, e0⟩ | ⟨h1, h2, h3, h4, e0⟩
  · rw [e0, hc]; exact h.look_some keyOn_u8 ht hk (by rfl) false
  · rw [e0, hc]; exact h.look_some keyOn_u8 ht hk (by rfl) false
  · rw [e0, hc]; exact h.look_some keyOn_u8 ht hk (by rfl) false
  · rw [e0, hc]; exact h.look_some keyOn_u8 ht hk (by rfl) false
  · rw [e0]
    exact h.look_none keyOn_u8 ht hk (a := (c.toNat : Int)) (by simp [assoc, kindRow, h1, h2, h3, h4]) (hz _) false
end Go.Creel
