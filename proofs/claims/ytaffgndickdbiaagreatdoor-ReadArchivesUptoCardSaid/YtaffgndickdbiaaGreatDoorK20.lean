/-
  Texts of this proof, one behind the other: BytesCut, RecSt, Block.
-/
import Derived.Test.YtaffgndickdbiaaGreatDoorK01
import Derived.Test.YtaffgndickdbiaaGreatDoorK08
import Derived.Test.YtaffgndickdbiaaGreatDoorK17
import Derived.Test.YtaffgndickdbiaaGreatDoorK19
import Derived.Test.YtaffgndickdbiaaGreatDoorK15
import Derived.Test.YtaffgndickdbiaaGreatDoorK12
import Derived.Deep.CutRange
import Derived.Deep.RegionHeld3
import Derived.Laws.ResultCell
namespace Go.Creel
set_option linter.unusedVariables false
set_option linter.unusedSimpArgs false
open Go.RowKit
theorem addr_zeroB (a : Option Addr) : a.map (·.add 0) = a := by cases a <;> simp [Addr.add]
theorem bytes_take {N : Nat} {w : World} {a : Option Addr} {n cap i : Nat} {l : List UInt8} (h : SliceC N 1 ByteC w [.slice a n cap] l) (hi : i ≤ l.length) : SliceC N 1 ByteC w [.slice a i cap] (l.take i) := by
  obtain ⟨a', cap', hv, h1, h2, h3, h4, h5⟩ := h
  simp only [List.cons.injEq, Value.slice.injEq, and_true] at hv
  obtain ⟨rfl, rfl, rfl⟩ := hv
  have hl : (l.take i).length = i := by rw [List.length_take]; omega
  refine ⟨a, cap, by rw [hl], by omega, h2, by omega, h4, fun hp => ?_⟩
  obtain ⟨b, off, e, hc⟩ := h5 (by omega)
  refine ⟨b, off, e, fun k hk => ?_⟩
  obtain ⟨c, hcl, hcc, hE⟩ := hc k (by omega)
  exact ⟨c, hcl, hcc, by rw [List.getElem_take]; exact hE⟩
theorem bytes_drop {N : Nat} {w : World} {a : Option Addr} {n cap i : Nat} {l : List UInt8} (h : SliceC N 1 ByteC w [.slice a n cap] l) (hi : i ≤ l.length) : SliceC N 1 ByteC w [sliced a i n cap 1] (l.drop i) := by
  obtain ⟨a', cap', hv, h1, h2, h3, h4, h5⟩ := h
  simp only [List.cons.injEq, Value.slice.injEq, and_true] at hv
  obtain ⟨rfl, rfl, rfl⟩ := hv
  have hl : (l.drop i).length = l.length - i := List.length_drop
  unfold sliced
  refine ⟨if cap = i then a else a.map (·.add (i * 1)), cap - i, by rw [hl], by omega, by omega, by omega, fun h => ?_, fun hp => ?_⟩
  · split at h
    · have := h4 h; omega
    · cases ha : a with
      | none => have := h4 ha; omega
      | some x => rw [ha] at h; cases h
  · obtain ⟨b, off, e, hc⟩ := h5 (by omega)
    refine ⟨b, off + i * 1, ?_, fun k hk => ?_⟩
    · rw [if_neg (by omega), e]
      simp only [Option.map_some, Addr.add]
      by_cases h0 : i = 0 <;> simp [h0]
    · obtain ⟨c, hcl, hcc, hE⟩ := hc (i + k) (by omega)
      refine ⟨c, hcl, fun j hj => ?_, by rw [List.getElem_drop]; exact hE⟩
      rw [← hcc j hj]
      congr 2
      omega
theorem bytes_form {N : Nat} {w : World} {v : Value} {l : List UInt8} (h : SliceC N 1 ByteC w [v] l) : ∃ a cap, v = .slice a l.length cap ∧ l.length ≤ cap := by
  obtain ⟨a, cap, hv, h1, _⟩ := h
  exact ⟨a, cap, by simpa using hv, h1⟩
end Go.Creel
namespace Go.Proofs.YtaffgndickdbiaaGreatDoor
set_option linter.unusedVariables false
open Go.Creel Go.RowKit
theorem run_takeB (w : World) (a : Option Addr) (n cap i : Nat) (h : i ≤ n) (hc : n ≤ cap) : (Instr.slice 24 (.slice a n cap) none (some (.int .i64 i)) none).run Tryz.prog w = .ok (.slice a i cap) w := by
  rw [run_slice_h w 24 a n cap (by kernel_rfl) .i64 i (by omega) (by omega)]
  have hs : (sizeOf (Tryz.prog.elem 24)).run Tryz.prog w = .ok 1 w := by kernel_rfl
  rw [hs]
  simp only [Result.andThen, sliced, Int.toNat_natCast, Nat.zero_mul, addr_zeroB, ite_self, Nat.sub_zero]
theorem run_dropB (w : World) (a : Option Addr) (n cap i : Nat) (h : i ≤ n) (hc : n ≤ cap) : (Instr.slice 24 (.slice a n cap) (some (.int .i64 i)) none none).run Tryz.prog w = .ok (sliced a i n cap 1) w := by
  rw [run_slice_l w 24 a n cap (by kernel_rfl) .i64 i (by omega) (by omega)]
  have hs : (sizeOf (Tryz.prog.elem 24)).run Tryz.prog w = .ok 1 w := by kernel_rfl
  rw [hs]
  simp only [Result.andThen, Int.toNat_natCast]
end Go.Proofs.YtaffgndickdbiaaGreatDoor
namespace Go.Creel
set_option linter.unusedVariables false
set_option linter.unusedSimpArgs false
open Go.RowKit
theorem ownsRow_elsewhere {w : World} {B size n b j : Nat} {t : TypeId} {v : Value} {xs : List Value} (u : Value) (h : w.ownsRow B t size v n xs) (hne : v.ownBlock ≠ some b) : (w.setCell ⟨b, j, none⟩ u).ownsRow B t size v n xs := by
  refine ⟨h.1, ?_⟩
  rcases h.2 with h0 | ⟨g, cap, cur, rfl, hbg, hg, r⟩
  · exact .inl h0
  · refine .inr ⟨g, cap, cur, rfl, hbg, ?_, r⟩
    rw [heap_setCell_other w ⟨b, j, none⟩ g u (fun e => hne (by rw [e]; rfl))]
    exact hg
theorem ownsRow_form2 {w : World} {B size n : Nat} {t : TypeId} {v : Value} {xs : List Value} (h : w.ownsRow B t size v (n + 1) xs) : ∃ g cap, v = .slice (some ⟨g, 0, none⟩) (n + 1) cap := by
  rcases h.2 with ⟨_, h0⟩ | ⟨g, cap, cur, rfl, _⟩
  · omega
  · exact ⟨g, cap, rfl⟩
structure RecSt (tR tP : TypeId) (w0 w : World) (b : Nat) (cs : Array Value) (v : Value) (l : List Rec) : Prop where
  row : w.heap[b]? = some (.cells cs tP (0, 0))
  own : OwnRecs tR w (b + 1) v l
  low : w0.heap.size ≤ b
  bel : Below w0.heap.size w0 w
section
variable {tR tP : TypeId} {w0 w w' w4 : World} {b : Nat} {cs : Array Value} {v v4 : Value} {l : List Rec}
theorem RecSt.lt (h : RecSt tR tP w0 w b cs v l) : b < w.heap.size := (Array.getElem?_eq_some_iff.1 h.row).1
theorem RecSt.below (h : RecSt tR tP w0 w b cs v l) (hb : Below w.heap.size w w') : RecSt tR tP w0 w' b cs v l :=
  ⟨(hb.block b h.lt).trans h.row, h.own.below hb, h.low, h.bel.trans (hb.mono h.bel.size)⟩
theorem RecSt.cell (h : RecSt tR tP w0 w b cs v l) (j : Nat) : w.cell? ⟨b, j, none⟩ = cs[j]? := cell_of_row w b j cs tP (0, 0) h.row
theorem RecSt.free (h : RecSt tR tP w0 w b cs v l) (j : Nat) : w.frozen? ⟨b, j, none⟩ = false := frozen_of_row w b j cs tP h.row
theorem RecSt.ne (h : RecSt tR tP w0 w b cs v l) : v.ownBlock ≠ some b := fun e => by have := (World.ownsRow.lt h.own b e).1; omega
theorem RecSt.row4 (h : RecSt tR tP w0 w b cs v l) (hg : w.grownBy w4 v.ownBlock) : w4.heap[b]? = some (.cells cs tP (0, 0)) :=
  (by obtain ⟨a1, a2, a3, a4, a5⟩ := hg; exact (a5 b h.lt (fun e => h.ne e.symm)).trans h.row)
theorem RecSt.cell4 (h : RecSt tR tP w0 w b cs v l) (hg : w.grownBy w4 v.ownBlock) (j : Nat) : w4.cell? ⟨b, j, none⟩ = cs[j]? := cell_of_row w4 b j cs tP (0, 0) (h.row4 hg)
theorem RecSt.free4 (h : RecSt tR tP w0 w b cs v l) (hg : w.grownBy w4 v.ownBlock) (j : Nat) : w4.frozen? ⟨b, j, none⟩ = false := frozen_of_row w4 b j cs tP (h.row4 hg)
theorem RecSt.put (h : RecSt tR tP w0 w b cs v l) (j : Nat) (u : Value) {cs' : Array Value} (e : cs.setIfInBounds j u = cs') : RecSt tR tP w0 (w.setCell ⟨b, j, none⟩ u) b cs' v l := by
  subst e
  exact ⟨heap_setCell_same w b j _ tP _ h.row, ownsRow_elsewhere _ h.own h.ne, h.low, h.bel.setCell (p := ⟨b, j, none⟩) h.low u⟩
theorem RecSt.say (h : RecSt tR tP w0 w b cs v l) (j : Nat) {r : Rec} (ho : w4.ownsRow (b + 1) tR 2 v4 (l.length + 1) (l.flatMap Rec.cl ++ [r].flatMap Rec.cl)) (hg : w.grownBy w4 v.ownBlock) {cs' : Array Value} (e : cs.setIfInBounds j v4 = cs') :
    RecSt tR tP w0 (w4.setCell ⟨b, j, none⟩ v4) b cs' v4 (l ++ [r]) := by
  subst e
  have own4 : OwnRecs tR w4 (b + 1) v4 (l ++ [r]) := OwnRecs.app (m := [r]) ho
  have hne4 : v4.ownBlock ≠ some b := fun e => by have := (World.ownsRow.lt own4 b e).1; omega
  refine ⟨heap_setCell_same w4 b j _ tP _ (h.row4 hg), ownsRow_elsewhere _ own4 hne4, h.low, ?_⟩
  refine Below.setCell ?_ (p := ⟨b, j, none⟩) h.low v4
  exact h.bel.grown hg h.bel.size (fun k hk => by have := (World.ownsRow.lt h.own k hk).1; have := h.low; omega)
theorem RecSt.since {wx : World} (h : RecSt tR tP wx w b cs v l) (hb : Below w0.heap.size w0 wx) : RecSt tR tP w0 w b cs v l :=
  ⟨h.row, h.own, Nat.le_trans hb.size h.low, hb.trans (h.bel.mono hb.size)⟩
end
end Go.Creel
namespace Go.Creel
set_option linter.unusedVariables false
set_option linter.unusedSimpArgs false
open Go.RowKit
theorem results_cell_tmp4 {fn : Func} {p u x y : Tmp} {ty : TypeId} (h : fn.results = #[.cell p ty, .tmp u, .tmp x, .tmp y]) (tmps : Array Value) (P : Program) (w : World) :
    (results fn tmps).run P w =
      ((asAddr (tmps.getD p undef)).run P w).andThen fun a w₁ => ((loadVar ty a).run P w₁).andThen fun v w₂ => .ok (.tuple #[v, tmps.getD u undef, tmps.getD x undef, tmps.getD y undef]) w₂ := by
  simp only [results, h]
  simp [Sem.run_bind, Result.andThen]
def RetBlk (t : TypeId) (vh : HeadN → Value) (w : World) (p : HeadN × List UInt8 × List UInt8 × Int) (e : Ending) (w' : World) : Prop :=
  ∃ v u, e = .returned (.tuple #[vh p.1, v, u, .int .i64 p.2.2.2]) ∧ OwnBs t w' w.heap.size v p.2.1 ∧ OwnBs t w' w.heap.size u p.2.2.1 ∧ Below w.heap.size w w'
end Go.Creel
namespace Go.Proofs.YtaffgndickdbiaaGreatDoor
set_option linter.unusedVariables false
set_option linter.unusedSimpArgs false
open Go.Creel Go.RowKit
set_option maxRecDepth 100000 in
set_option maxHeartbeats 400000 in
theorem Block_short (v : Value) (b : List UInt8) (w : World) (h : SliceC maxLen 1 ByteC w [v] b) (hs : b.length < 512) :
    Calls Tryz.prog 50 #[v] w (RetBlk 5 HeadN.val' w (blockOf b)) := by
  obtain ⟨a, cap, hv⟩ : ∃ a cap, v = .slice a b.length cap := by
    obtain ⟨a, cap, hv, _⟩ := h
    exact ⟨a, cap, by simpa using hv⟩
  subst hv
  have HF := Lib.hid (blockOf_short hs)
  have HBZ := Lib.hid ((Below.refl w.heap.size w).alloc (Nat.le_refl _) (.cells #[.string ⟨#[]⟩, .string ⟨#[]⟩, .string ⟨#[]⟩, .int .i64 0, .int .i64 0, .int .i64 0, .int .i64 0, .int .i64 0, .int .u8 0, .string ⟨#[]⟩, .string ⟨#[]⟩] 62))
  clear h
  go_enter Tryz.func50, Tryz.ntmps50
  go_wp2
  (try simp only [Exit.inBlock, Exit.then])
  refine bodyPost_ret (v := .tuple #[.agg #[.string ⟨#[]⟩, .string ⟨#[]⟩, .string ⟨#[]⟩, .int .i64 0, .int .i64 0, .int .i64 0, .int .i64 0, .int .i64 0, .int .u8 0, .string ⟨#[]⟩, .string ⟨#[]⟩], .slice none 0 0, .slice none 0 0, .int .i64 7]) (by rw [results_cell_tmp4 rfl]; go_simp) rfl ?_
  rw [HF.out]
  exact ⟨_, _, rfl, OwnBs.nil _ _ _, OwnBs.nil _ _ _, HBZ.out⟩
set_option maxRecDepth 100000 in
set_option maxHeartbeats 400000 in
theorem Block_head (v : Value) (b : List UInt8) (w : World) (h : SliceC maxLen 1 ByteC w [v] b) (hs : ¬ b.length < 512) (hh : ¬ (head512 b).2 = 0) :
    Calls Tryz.prog 50 #[v] w (RetBlk 5 HeadN.val' w (blockOf b)) := by
  obtain ⟨a, cap, hv, hcp⟩ := bytes_form h
  subst hv
  have hcm : cap ≤ maxLen := by obtain ⟨_, _, hv, _, h2, _⟩ := h; simp only [List.cons.injEq, Value.slice.injEq, and_true] at hv; omega
  have hsl : ∀ W : World, (Instr.slice 24 (.slice a b.length cap) none (some (.int .i64 512)) none).run Tryz.prog W = .ok (.slice a 512 cap) W := fun W => run_takeB W a b.length cap 512 (by omega) hcp
  have H := Lib.hid h
  have hTK := bytes_take (i := 512) h (by omega)
  have HBZ := Lib.hid ((Below.refl w.heap.size w).alloc (Nat.le_refl _) (.cells #[.string ⟨#[]⟩, .string ⟨#[]⟩, .string ⟨#[]⟩, .int .i64 0, .int .i64 0, .int .i64 0, .int .i64 0, .int .i64 0, .int .u8 0, .string ⟨#[]⟩, .string ⟨#[]⟩] 62))
  have HRZ : Hid ((w.alloc (.cells #[.string ⟨#[]⟩, .string ⟨#[]⟩, .string ⟨#[]⟩, .int .i64 0, .int .i64 0, .int .i64 0, .int .i64 0, .int .i64 0, .int .u8 0, .string ⟨#[]⟩, .string ⟨#[]⟩] 62)).heap[w.heap.size]? = some (.cells #[.string ⟨#[]⟩, .string ⟨#[]⟩, .string ⟨#[]⟩, .int .i64 0, .int .i64 0, .int .i64 0, .int .i64 0, .int .i64 0, .int .u8 0, .string ⟨#[]⟩, .string ⟨#[]⟩] 62 (0, 0))) := Lib.hid (heap_alloc_new _ _)
  have hlen : (b.take 512).length = 512 := by rw [List.length_take]; omega
  have hTK2 : SliceC maxLen 1 ByteC (w.alloc (.cells #[.string ⟨#[]⟩, .string ⟨#[]⟩, .string ⟨#[]⟩, .int .i64 0, .int .i64 0, .int .i64 0, .int .i64 0, .int .i64 0, .int .u8 0, .string ⟨#[]⟩, .string ⟨#[]⟩] 62)) [.slice a (b.take 512).length cap] (b.take 512) := by rw [hlen]; exact hTK.below (fun _ _ h => h) HBZ.out
  have hcv := conv (w.alloc (.cells #[.string ⟨#[]⟩, .string ⟨#[]⟩, .string ⟨#[]⟩, .int .i64 0, .int .i64 0, .int .i64 0, .int .i64 0, .int .i64 0, .int .u8 0, .string ⟨#[]⟩, .string ⟨#[]⟩] 62)) hTK2
  rw [hlen] at hcv
  have HHR := Lib.hid (fun W => HeadRead_any (ofL (b.take 512)) W (by rw [ofL_size, hlen]; decide))
  have HF := Lib.hid (blockOf_head hs hh)
  have HP : Hid (headOf (ofL (b.take 512)) = head512 b) := Lib.hid rfl
  rw [HP.out] at HHR
  generalize head512 b = p at *
  obtain ⟨hd, e0⟩ := p
  simp only at hh HF HHR
  have hq : (e0 != 0) = true := by rw [bne_iff_ne]; exact hh
  have hls : ¬ ((b.length : Int) < 512) := by omega
  clear h hTK hTK2 hh hs
  go_enter Tryz.func50, Tryz.ntmps50
  go_wp2_with fail
  refine (HHR.out _).mono ?_
  rintro e w1 ⟨rfl, hb⟩
  have HB1 := Lib.hid (HBZ.out.trans (hb.mono HBZ.out.size))
  have HR1 := Lib.hid ((hb.block _ (Array.getElem?_eq_some_iff.1 HRZ.out).1).trans HRZ.out)
  have hlr := (Array.getElem?_eq_some_iff.1 HR1.out).1
  clear hb HRZ
  have r0 : w1.cell? ⟨w.heap.size, 0, none⟩ = some (.string ⟨#[]⟩) := by rw [cell_of_row w1 w.heap.size 0 _ _ (0, 0) HR1.out]; rfl
  have r1 : w1.cell? ⟨w.heap.size, 1, none⟩ = some (.string ⟨#[]⟩) := by rw [cell_of_row w1 w.heap.size 1 _ _ (0, 0) HR1.out]; rfl
  have r2 : w1.cell? ⟨w.heap.size, 2, none⟩ = some (.string ⟨#[]⟩) := by rw [cell_of_row w1 w.heap.size 2 _ _ (0, 0) HR1.out]; rfl
  have r3 : w1.cell? ⟨w.heap.size, 3, none⟩ = some (.int .i64 0) := by rw [cell_of_row w1 w.heap.size 3 _ _ (0, 0) HR1.out]; rfl
  have r4 : w1.cell? ⟨w.heap.size, 4, none⟩ = some (.int .i64 0) := by rw [cell_of_row w1 w.heap.size 4 _ _ (0, 0) HR1.out]; rfl
  have r5 : w1.cell? ⟨w.heap.size, 5, none⟩ = some (.int .i64 0) := by rw [cell_of_row w1 w.heap.size 5 _ _ (0, 0) HR1.out]; rfl
  have r6 : w1.cell? ⟨w.heap.size, 6, none⟩ = some (.int .i64 0) := by rw [cell_of_row w1 w.heap.size 6 _ _ (0, 0) HR1.out]; rfl
  have r7 : w1.cell? ⟨w.heap.size, 7, none⟩ = some (.int .i64 0) := by rw [cell_of_row w1 w.heap.size 7 _ _ (0, 0) HR1.out]; rfl
  have r8 : w1.cell? ⟨w.heap.size, 8, none⟩ = some (.int .u8 0) := by rw [cell_of_row w1 w.heap.size 8 _ _ (0, 0) HR1.out]; rfl
  have r9 : w1.cell? ⟨w.heap.size, 9, none⟩ = some (.string ⟨#[]⟩) := by rw [cell_of_row w1 w.heap.size 9 _ _ (0, 0) HR1.out]; rfl
  have r10 : w1.cell? ⟨w.heap.size, 10, none⟩ = some (.string ⟨#[]⟩) := by rw [cell_of_row w1 w.heap.size 10 _ _ (0, 0) HR1.out]; rfl
  have f0 := frozen_of_row w1 w.heap.size 0 _ _ HR1.out
  have f1 := frozen_of_row w1 w.heap.size 1 _ _ HR1.out
  have f2 := frozen_of_row w1 w.heap.size 2 _ _ HR1.out
  have f3 := frozen_of_row w1 w.heap.size 3 _ _ HR1.out
  have f4 := frozen_of_row w1 w.heap.size 4 _ _ HR1.out
  have f5 := frozen_of_row w1 w.heap.size 5 _ _ HR1.out
  have f6 := frozen_of_row w1 w.heap.size 6 _ _ HR1.out
  have f7 := frozen_of_row w1 w.heap.size 7 _ _ HR1.out
  have f8 := frozen_of_row w1 w.heap.size 8 _ _ HR1.out
  have f9 := frozen_of_row w1 w.heap.size 9 _ _ HR1.out
  have f10 := frozen_of_row w1 w.heap.size 10 _ _ HR1.out
  go_upto_region 4 with fail
  have hne : w.heap.size ≠ w1.heap.size := by omega
  go_wp2
  (try simp only [Exit.inBlock, Exit.then])
  refine bodyPost_ret (v := .tuple #[.agg #[.string ⟨#[]⟩, .string ⟨#[]⟩, .string ⟨#[]⟩, .int .i64 0, .int .i64 0, .int .i64 0, .int .i64 0, .int .i64 0, .int .u8 0, .string ⟨#[]⟩, .string ⟨#[]⟩], .slice none 0 0, .slice none 0 0, .int .i64 e0]) (by rw [results_cell_tmp4 rfl]; go_simp) rfl ?_
  rw [HF.out]
  have X := Lib.hid ((((((((((((HB1.out.setCell (p := ⟨w.heap.size, 0, none⟩) (Nat.le_refl _) (.string ⟨#[]⟩)).setCell (p := ⟨w.heap.size, 1, none⟩) (Nat.le_refl _) (.string ⟨#[]⟩)).setCell (p := ⟨w.heap.size, 2, none⟩) (Nat.le_refl _) (.string ⟨#[]⟩)).setCell (p := ⟨w.heap.size, 3, none⟩) (Nat.le_refl _) (.int .i64 0)).setCell (p := ⟨w.heap.size, 4, none⟩) (Nat.le_refl _) (.int .i64 0)).setCell (p := ⟨w.heap.size, 5, none⟩) (Nat.le_refl _) (.int .i64 0)).setCell (p := ⟨w.heap.size, 6, none⟩) (Nat.le_refl _) (.int .i64 0)).setCell (p := ⟨w.heap.size, 7, none⟩) (Nat.le_refl _) (.int .i64 0)).setCell (p := ⟨w.heap.size, 8, none⟩) (Nat.le_refl _) (.int .u8 0)).setCell (p := ⟨w.heap.size, 9, none⟩) (Nat.le_refl _) (.string ⟨#[]⟩)).setCell (p := ⟨w.heap.size, 10, none⟩) (Nat.le_refl _) (.string ⟨#[]⟩)))
  exact ⟨_, _, rfl, OwnBs.nil _ _ _, OwnBs.nil _ _ _, X.out.alloc X.out.size _⟩
set_option maxRecDepth 100000 in
set_option maxHeartbeats 400000 in
theorem Block_ok (v : Value) (b : List UInt8) (w : World) (h : SliceC maxLen 1 ByteC w [v] b) (hbl : b.length ≤ 1048576) (hs : ¬ b.length < 512) (hh : (head512 b).2 = 0) :
    Calls Tryz.prog 50 #[v] w (RetBlk 5 HeadN.val' w (blockOf b)) := by
  obtain ⟨a, cap, hv, hcp⟩ := bytes_form h
  subst hv
  have hcm : cap ≤ maxLen := by obtain ⟨_, _, hv, _, h2, _⟩ := h; simp only [List.cons.injEq, Value.slice.injEq, and_true] at hv; omega
  have hsl : ∀ W : World, (Instr.slice 24 (.slice a b.length cap) none (some (.int .i64 512)) none).run Tryz.prog W = .ok (.slice a 512 cap) W := fun W => run_takeB W a b.length cap 512 (by omega) hcp
  have H := Lib.hid h
  have hTK := bytes_take (i := 512) h (by omega)
  have HBZ := Lib.hid ((Below.refl w.heap.size w).alloc (Nat.le_refl _) (.cells #[.string ⟨#[]⟩, .string ⟨#[]⟩, .string ⟨#[]⟩, .int .i64 0, .int .i64 0, .int .i64 0, .int .i64 0, .int .i64 0, .int .u8 0, .string ⟨#[]⟩, .string ⟨#[]⟩] 62))
  have HRZ : Hid ((w.alloc (.cells #[.string ⟨#[]⟩, .string ⟨#[]⟩, .string ⟨#[]⟩, .int .i64 0, .int .i64 0, .int .i64 0, .int .i64 0, .int .i64 0, .int .u8 0, .string ⟨#[]⟩, .string ⟨#[]⟩] 62)).heap[w.heap.size]? = some (.cells #[.string ⟨#[]⟩, .string ⟨#[]⟩, .string ⟨#[]⟩, .int .i64 0, .int .i64 0, .int .i64 0, .int .i64 0, .int .i64 0, .int .u8 0, .string ⟨#[]⟩, .string ⟨#[]⟩] 62 (0, 0))) := Lib.hid (heap_alloc_new _ _)
  have hlen : (b.take 512).length = 512 := by rw [List.length_take]; omega
  have hTK2 : SliceC maxLen 1 ByteC (w.alloc (.cells #[.string ⟨#[]⟩, .string ⟨#[]⟩, .string ⟨#[]⟩, .int .i64 0, .int .i64 0, .int .i64 0, .int .i64 0, .int .i64 0, .int .u8 0, .string ⟨#[]⟩, .string ⟨#[]⟩] 62)) [.slice a (b.take 512).length cap] (b.take 512) := by rw [hlen]; exact hTK.below (fun _ _ h => h) HBZ.out
  have hcv := conv (w.alloc (.cells #[.string ⟨#[]⟩, .string ⟨#[]⟩, .string ⟨#[]⟩, .int .i64 0, .int .i64 0, .int .i64 0, .int .i64 0, .int .i64 0, .int .u8 0, .string ⟨#[]⟩, .string ⟨#[]⟩] 62)) hTK2
  rw [hlen] at hcv
  have HHR := Lib.hid (fun W => HeadRead_any (ofL (b.take 512)) W (by rw [ofL_size, hlen]; decide))
  have HF := Lib.hid (blockOf_cut hs hh)
  have HP : Hid (headOf (ofL (b.take 512)) = head512 b) := Lib.hid rfl
  have hsz := head512_size b
  have hs2 : ∀ W : World, (Instr.slice 24 (.slice a b.length cap) (some (.int .i64 512)) none none).run Tryz.prog W = .ok (sliced a 512 b.length cap 1) W := fun W => run_dropB W a b.length cap 512 (by omega) hcp
  have HDR := Lib.hid (bytes_drop (i := 512) h (by omega))
  have hdl : (b.drop 512).length ≤ 1048576 := by rw [List.length_drop]; omega
  have HPC0 := Lib.hid (fun v W h => PadCutL_any (N := maxLen) v (b.drop 512) (head512 b).1.size W (by unfold i64; omega) h hdl)
  rw [HP.out] at HHR
  generalize sliced a 512 b.length cap 1 = sl at *
  generalize head512 b = p at *
  obtain ⟨hd, e0⟩ := p
  simp only at hh HF HHR hsz HPC0
  subst hh
  generalize padCut (b.drop 512) hd.size = pc at *
  obtain ⟨p1, p2, p3⟩ := pc
  have hls : ¬ ((b.length : Int) < 512) := by omega
  clear h hTK hTK2 hs
  go_enter Tryz.func50, Tryz.ntmps50
  go_wp2_with fail
  refine (HHR.out _).mono ?_
  rintro e w1 ⟨rfl, hb⟩
  have HB1 := Lib.hid (HBZ.out.trans (hb.mono HBZ.out.size))
  have HR1 := Lib.hid ((hb.block _ (Array.getElem?_eq_some_iff.1 HRZ.out).1).trans HRZ.out)
  have hlr := (Array.getElem?_eq_some_iff.1 HR1.out).1
  clear hb HRZ
  go_upto_region 6 with fail
  have HA := Lib.hid ((Below.refl w1.heap.size w1).alloc (Nat.le_refl _) (.cells #[.string hd.nm, .string hd.px, .string hd.lk, .int .i64 hd.mode, .int .i64 hd.uid, .int .i64 hd.gid, .int .i64 hd.size, .int .i64 hd.time, .int .u8 hd.typ.toNat, .string hd.user, .string hd.group] 62))
  have HB2 := Lib.hid (HB1.out.trans (HA.out.mono HB1.out.size))
  have HD2 : Hid ((w1.alloc (.cells #[.string hd.nm, .string hd.px, .string hd.lk, .int .i64 hd.mode, .int .i64 hd.uid, .int .i64 hd.gid, .int .i64 hd.size, .int .i64 hd.time, .int .u8 hd.typ.toNat, .string hd.user, .string hd.group] 62)).heap[w1.heap.size]? = some (.cells #[.string hd.nm, .string hd.px, .string hd.lk, .int .i64 hd.mode, .int .i64 hd.uid, .int .i64 hd.gid, .int .i64 hd.size, .int .i64 hd.time, .int .u8 hd.typ.toNat, .string hd.user, .string hd.group] 62 (0, 0))) := Lib.hid (heap_alloc_new _ _)
  have HR2 := Lib.hid ((HA.out.block _ hlr).trans HR1.out)
  have hne : w.heap.size ≠ w1.heap.size := by omega
  generalize w1.heap.size = bh at *
  generalize w1.alloc (.cells #[.string hd.nm, .string hd.px, .string hd.lk, .int .i64 hd.mode, .int .i64 hd.uid, .int .i64 hd.gid, .int .i64 hd.size, .int .i64 hd.time, .int .u8 hd.typ.toNat, .string hd.user, .string hd.group] 62) = w2 at *
  clear HA HB1 HR1 hlr
  have hbh := (Array.getElem?_eq_some_iff.1 HD2.out).1
  have hc6 : w2.cell? ⟨bh, 6, none⟩ = some (.int .i64 hd.size) := by rw [cell_of_row w2 bh 6 _ _ (0, 0) HD2.out]; rfl
  have HPC := Lib.hid (fun W (hB : Below w2.heap.size w2 W) => show Calls Tryz.prog 118 #[sl, .int .i64 hd.size] W (fun e w' => ∃ v1 v2, e = .returned (.tuple #[v1, v2, .int .i64 p3]) ∧ Hid (OwnBs 5 w' w2.heap.size v1 p1) ∧ Hid (OwnBs 5 w' w2.heap.size v2 p2) ∧ w'.cell? ⟨bh, 6, none⟩ = some (.int .i64 hd.size) ∧ Below w2.heap.size w2 w') from
    (HPC0.out sl W (HDR.out.below (fun _ _ h => h) (HB2.out.trans (hB.mono HB2.out.size)))).mono fun e w' hx => by
      obtain ⟨v1, v2, h1, h2, h3, h4⟩ := hx
      have hb2 := hB.trans (h4.mono hB.size)
      exact ⟨v1, v2, h1, Lib.hid (h2.mono hB.size), Lib.hid (h3.mono hB.size), by rw [cell_of_row w' bh 6 _ _ (0, 0) ((hb2.block bh hbh).trans HD2.out)]; rfl, hb2⟩)
  have hdrw := (Below.refl w2.heap.size w2).drew
  go_cut [7, 8, 9] from 25 to 33 (fun u7 u8 u9 wy => u7 = .int .i64 p3 ∧ Hid (OwnBs 5 wy w2.heap.size u8 p1) ∧ Hid (OwnBs 5 wy w2.heap.size u9 p2) ∧ Hid (Below w2.heap.size w2 wy))
  case first =>
    go_region_held3 (fun w' => w'.cell? ⟨bh, 6, none⟩ = some (.int .i64 hd.size) ∧ Below w2.heap.size w2 w') (go_keep)
      (first | (go_at_call 118; refine (HPC.out _ ?_).mono ?_; (simp [*]); rintro e w3 ⟨v1, v2, rfl, ho1, ho2, r6, hb3⟩))
    go_wp2_with fail
    go_meet
    case rel => exact ⟨rfl, ho1, ho2, Lib.hid hb3⟩
  case rest =>
  obtain ⟨rfl, HO1, HO2, HB3⟩ := hcut
  obtain ⟨w3, rfl⟩ : ∃ W : World, W = wc := ⟨_, rfl⟩
  have HD3 := Lib.hid ((HB3.out.block _ hbh).trans HD2.out)
  have HR3 := Lib.hid ((HB3.out.block _ (Array.getElem?_eq_some_iff.1 HR2.out).1).trans HR2.out)
  have HBW := Lib.hid (HB2.out.trans (HB3.out.mono HB2.out.size))
  have hrl : w.heap.size < w2.heap.size := (Array.getElem?_eq_some_iff.1 HR2.out).1
  clear HPC HPC0 HR2 HD2 hc6 hdrw HDR
  have r0 : w3.cell? ⟨w.heap.size, 0, none⟩ = some (.string ⟨#[]⟩) := by rw [cell_of_row w3 w.heap.size 0 _ _ (0, 0) HR3.out]; rfl
  have r1 : w3.cell? ⟨w.heap.size, 1, none⟩ = some (.string ⟨#[]⟩) := by rw [cell_of_row w3 w.heap.size 1 _ _ (0, 0) HR3.out]; rfl
  have r2 : w3.cell? ⟨w.heap.size, 2, none⟩ = some (.string ⟨#[]⟩) := by rw [cell_of_row w3 w.heap.size 2 _ _ (0, 0) HR3.out]; rfl
  have r3 : w3.cell? ⟨w.heap.size, 3, none⟩ = some (.int .i64 0) := by rw [cell_of_row w3 w.heap.size 3 _ _ (0, 0) HR3.out]; rfl
  have r4 : w3.cell? ⟨w.heap.size, 4, none⟩ = some (.int .i64 0) := by rw [cell_of_row w3 w.heap.size 4 _ _ (0, 0) HR3.out]; rfl
  have r5 : w3.cell? ⟨w.heap.size, 5, none⟩ = some (.int .i64 0) := by rw [cell_of_row w3 w.heap.size 5 _ _ (0, 0) HR3.out]; rfl
  have r6 : w3.cell? ⟨w.heap.size, 6, none⟩ = some (.int .i64 0) := by rw [cell_of_row w3 w.heap.size 6 _ _ (0, 0) HR3.out]; rfl
  have r7 : w3.cell? ⟨w.heap.size, 7, none⟩ = some (.int .i64 0) := by rw [cell_of_row w3 w.heap.size 7 _ _ (0, 0) HR3.out]; rfl
  have r8 : w3.cell? ⟨w.heap.size, 8, none⟩ = some (.int .u8 0) := by rw [cell_of_row w3 w.heap.size 8 _ _ (0, 0) HR3.out]; rfl
  have r9 : w3.cell? ⟨w.heap.size, 9, none⟩ = some (.string ⟨#[]⟩) := by rw [cell_of_row w3 w.heap.size 9 _ _ (0, 0) HR3.out]; rfl
  have r10 : w3.cell? ⟨w.heap.size, 10, none⟩ = some (.string ⟨#[]⟩) := by rw [cell_of_row w3 w.heap.size 10 _ _ (0, 0) HR3.out]; rfl
  have f0 := frozen_of_row w3 w.heap.size 0 _ _ HR3.out
  have f1 := frozen_of_row w3 w.heap.size 1 _ _ HR3.out
  have f2 := frozen_of_row w3 w.heap.size 2 _ _ HR3.out
  have f3 := frozen_of_row w3 w.heap.size 3 _ _ HR3.out
  have f4 := frozen_of_row w3 w.heap.size 4 _ _ HR3.out
  have f5 := frozen_of_row w3 w.heap.size 5 _ _ HR3.out
  have f6 := frozen_of_row w3 w.heap.size 6 _ _ HR3.out
  have f7 := frozen_of_row w3 w.heap.size 7 _ _ HR3.out
  have f8 := frozen_of_row w3 w.heap.size 8 _ _ HR3.out
  have f9 := frozen_of_row w3 w.heap.size 9 _ _ HR3.out
  have f10 := frozen_of_row w3 w.heap.size 10 _ _ HR3.out
  have c0 : w3.cell? ⟨bh, 0, none⟩ = some (.string hd.nm) := by rw [cell_of_row w3 bh 0 _ _ (0, 0) HD3.out]; rfl
  have c1 : w3.cell? ⟨bh, 1, none⟩ = some (.string hd.px) := by rw [cell_of_row w3 bh 1 _ _ (0, 0) HD3.out]; rfl
  have c2 : w3.cell? ⟨bh, 2, none⟩ = some (.string hd.lk) := by rw [cell_of_row w3 bh 2 _ _ (0, 0) HD3.out]; rfl
  have c3 : w3.cell? ⟨bh, 3, none⟩ = some (.int .i64 hd.mode) := by rw [cell_of_row w3 bh 3 _ _ (0, 0) HD3.out]; rfl
  have c4 : w3.cell? ⟨bh, 4, none⟩ = some (.int .i64 hd.uid) := by rw [cell_of_row w3 bh 4 _ _ (0, 0) HD3.out]; rfl
  have c5 : w3.cell? ⟨bh, 5, none⟩ = some (.int .i64 hd.gid) := by rw [cell_of_row w3 bh 5 _ _ (0, 0) HD3.out]; rfl
  have c6 : w3.cell? ⟨bh, 6, none⟩ = some (.int .i64 hd.size) := by rw [cell_of_row w3 bh 6 _ _ (0, 0) HD3.out]; rfl
  have c7 : w3.cell? ⟨bh, 7, none⟩ = some (.int .i64 hd.time) := by rw [cell_of_row w3 bh 7 _ _ (0, 0) HD3.out]; rfl
  have c8 : w3.cell? ⟨bh, 8, none⟩ = some (.int .u8 hd.typ.toNat) := by rw [cell_of_row w3 bh 8 _ _ (0, 0) HD3.out]; rfl
  have c9 : w3.cell? ⟨bh, 9, none⟩ = some (.string hd.user) := by rw [cell_of_row w3 bh 9 _ _ (0, 0) HD3.out]; rfl
  have c10 : w3.cell? ⟨bh, 10, none⟩ = some (.string hd.group) := by rw [cell_of_row w3 bh 10 _ _ (0, 0) HD3.out]; rfl
  have hne2 : bh ≠ w.heap.size := fun e => hne e.symm
  go_wp2
  (try simp only [Exit.inBlock, Exit.then])
  obtain ⟨x1, rfl⟩ : ∃ V : Value, V = u8 := ⟨_, rfl⟩
  obtain ⟨x2, rfl⟩ : ∃ V : Value, V = u9 := ⟨_, rfl⟩
  refine bodyPost_ret (v := .tuple #[HeadN.val' hd, x1, x2, .int .i64 p3]) (by rw [results_cell_tmp4 rfl]; go_simp) rfl ?_
  rw [HF.out]
  have hn1 : x1.ownBlock ≠ some w.heap.size := fun e => by have := (World.ownsRow.lt HO1.out _ e).1; omega
  have hn2 : x2.ownBlock ≠ some w.heap.size := fun e => by have := (World.ownsRow.lt HO2.out _ e).1; omega
  exact ⟨x1, x2, rfl, (ownsRow_elsewhere (j := 10) _ (ownsRow_elsewhere (j := 9) _ (ownsRow_elsewhere (j := 8) _ (ownsRow_elsewhere (j := 7) _ (ownsRow_elsewhere (j := 6) _ (ownsRow_elsewhere (j := 5) _ (ownsRow_elsewhere (j := 4) _ (ownsRow_elsewhere (j := 3) _ (ownsRow_elsewhere (j := 2) _ (ownsRow_elsewhere (j := 1) _ (ownsRow_elsewhere (j := 0) _ (HO1.out.mono (Nat.le_of_lt hrl)) hn1) hn1) hn1) hn1) hn1) hn1) hn1) hn1) hn1) hn1) hn1), (ownsRow_elsewhere (j := 10) _ (ownsRow_elsewhere (j := 9) _ (ownsRow_elsewhere (j := 8) _ (ownsRow_elsewhere (j := 7) _ (ownsRow_elsewhere (j := 6) _ (ownsRow_elsewhere (j := 5) _ (ownsRow_elsewhere (j := 4) _ (ownsRow_elsewhere (j := 3) _ (ownsRow_elsewhere (j := 2) _ (ownsRow_elsewhere (j := 1) _ (ownsRow_elsewhere (j := 0) _ (HO2.out.mono (Nat.le_of_lt hrl)) hn2) hn2) hn2) hn2) hn2) hn2) hn2) hn2) hn2) hn2) hn2), (((((((((((HBW.out.setCell (p := ⟨w.heap.size, 0, none⟩) (Nat.le_refl _) (.string hd.nm)).setCell (p := ⟨w.heap.size, 1, none⟩) (Nat.le_refl _) (.string hd.px)).setCell (p := ⟨w.heap.size, 2, none⟩) (Nat.le_refl _) (.string hd.lk)).setCell (p := ⟨w.heap.size, 3, none⟩) (Nat.le_refl _) (.int .i64 hd.mode)).setCell (p := ⟨w.heap.size, 4, none⟩) (Nat.le_refl _) (.int .i64 hd.uid)).setCell (p := ⟨w.heap.size, 5, none⟩) (Nat.le_refl _) (.int .i64 hd.gid)).setCell (p := ⟨w.heap.size, 6, none⟩) (Nat.le_refl _) (.int .i64 hd.size)).setCell (p := ⟨w.heap.size, 7, none⟩) (Nat.le_refl _) (.int .i64 hd.time)).setCell (p := ⟨w.heap.size, 8, none⟩) (Nat.le_refl _) (.int .u8 hd.typ.toNat)).setCell (p := ⟨w.heap.size, 9, none⟩) (Nat.le_refl _) (.string hd.user)).setCell (p := ⟨w.heap.size, 10, none⟩) (Nat.le_refl _) (.string hd.group))⟩
theorem Block_any (v : Value) (b : List UInt8) (w : World) (h : SliceC maxLen 1 ByteC w [v] b) (hbl : b.length ≤ 1048576) :
    Calls Tryz.prog 50 #[v] w (RetBlk 5 HeadN.val' w (blockOf b)) := by
  by_cases hs : b.length < 512
  · exact Block_short v b w h hs
  · by_cases hh : (head512 b).2 = 0
    · exact Block_ok v b w h hbl hs hh
    · exact Block_head v b w h hs hh
end Go.Proofs.YtaffgndickdbiaaGreatDoor
