/-
  A box that leads to an own slice of records, younger than the box and all that was there.
-/
import Derived.Test.YtaffgndickdbiaaDoorRecSt
namespace Go.Creel
set_option linter.unusedVariables false
set_option linter.unusedSimpArgs false
open Go.RowKit
theorem grown_by_below {w w' : World} {row : Option Nat} (hb : Below w.heap.size w w') : w.grownBy w' row := ⟨hb.os, hb.tape, hb.output, hb.size, fun k hk _ => hb.block k hk⟩
theorem grown_then {w w1 w2 : World} {row : Option Nat} (h1 : w.grownBy w1 row) (h2 : w1.grownBy w2 row) : w.grownBy w2 row := by
  obtain ⟨a1, a2, a3, a4, a5⟩ := h1
  obtain ⟨b1, b2, b3, b4, b5⟩ := h2
  exact ⟨b1.trans a1, b2.trans a2, b3.trans a3, Nat.le_trans a4 b4, fun k hk hne => (b5 k (Nat.lt_of_lt_of_le hk a4) hne).trans (a5 k hk hne)⟩
structure RecG (tR tP : TypeId) (w0 w : World) (b : Nat) (cs : Array Value) (v : Value) (l : List Rec) : Prop where
  row : w.heap[b]? = some (.cells cs tP (0, 0))
  own : OwnRecs tR w w0.heap.size v l
  low : b < w0.heap.size
  gr : w0.grownBy w (some b)
section
variable {tR tP : TypeId} {w0 w w' w4 : World} {b : Nat} {cs : Array Value} {v v4 : Value} {l : List Rec}
theorem RecG.lt (h : RecG tR tP w0 w b cs v l) : b < w.heap.size := (Array.getElem?_eq_some_iff.1 h.row).1
theorem RecG.size (h : RecG tR tP w0 w b cs v l) : w0.heap.size ≤ w.heap.size := by obtain ⟨_, _, _, a4, _⟩ := h.gr; exact a4
theorem RecG.below (h : RecG tR tP w0 w b cs v l) (hb : Below w.heap.size w w') : RecG tR tP w0 w' b cs v l :=
  ⟨(hb.block b h.lt).trans h.row, h.own.below hb, h.low, grown_then h.gr (grown_by_below hb)⟩
theorem RecG.cell (h : RecG tR tP w0 w b cs v l) (j : Nat) : w.cell? ⟨b, j, none⟩ = cs[j]? := cell_of_row w b j cs tP (0, 0) h.row
theorem RecG.ne (h : RecG tR tP w0 w b cs v l) : v.ownBlock ≠ some b := fun e => by have := (World.ownsRow.lt h.own b e).1; have := h.low; omega
theorem RecG.row4 (h : RecG tR tP w0 w b cs v l) (hg : w.grownBy w4 v.ownBlock) : w4.heap[b]? = some (.cells cs tP (0, 0)) :=
  (by obtain ⟨a1, a2, a3, a4, a5⟩ := hg; exact (a5 b h.lt (fun e => h.ne e.symm)).trans h.row)
theorem RecG.cell4 (h : RecG tR tP w0 w b cs v l) (hg : w.grownBy w4 v.ownBlock) (j : Nat) : w4.cell? ⟨b, j, none⟩ = cs[j]? := cell_of_row w4 b j cs tP (0, 0) (h.row4 hg)
theorem RecG.free4 (h : RecG tR tP w0 w b cs v l) (hg : w.grownBy w4 v.ownBlock) (j : Nat) : w4.frozen? ⟨b, j, none⟩ = false := frozen_of_row w4 b j cs tP (h.row4 hg)
/-- what was there, but for the box -/
theorem RecG.other (h : RecG tR tP w0 w b cs v l) {k o : Nat} {u : Value} (hc : w0.cell? ⟨k, o, none⟩ = some u) (hne : k ≠ b) : w.cell? ⟨k, o, none⟩ = some u := by
  have hk := World.block_lt_of_cell? w0 _ hc
  obtain ⟨_, _, _, _, a5⟩ := h.gr
  have e := a5 k hk (fun e => hne (Option.some.inj e))
  unfold World.cell? at hc ⊢
  simp only at hc ⊢
  rw [e]; exact hc
theorem RecG.say (h : RecG tR tP w0 w b cs v l) (j : Nat) {r : Rec} (ho : w4.ownsRow w0.heap.size tR 2 v4 (l.length + 1) (l.flatMap Rec.cl ++ [r].flatMap Rec.cl)) (hg : w.grownBy w4 v.ownBlock) {cs' : Array Value} (e : cs.setIfInBounds j v4 = cs') :
    RecG tR tP w0 (w4.setCell ⟨b, j, none⟩ v4) b cs' v4 (l ++ [r]) := by
  subst e
  have own4 : OwnRecs tR w4 w0.heap.size v4 (l ++ [r]) := OwnRecs.app (m := [r]) ho
  have hne4 : v4.ownBlock ≠ some b := fun e => by have := (World.ownsRow.lt own4 b e).1; have := h.low; omega
  refine ⟨heap_setCell_same w4 b j _ tP _ (h.row4 hg), ownsRow_elsewhere _ own4 hne4, h.low, ?_⟩
  obtain ⟨a1, a2, a3, a4, a5⟩ := h.gr
  obtain ⟨b1, b2, b3, b4, b5⟩ := hg
  refine ⟨b1.trans a1, b2.trans a2, b3.trans a3, by simp only [World.setCell, Array.size_modify]; omega, fun k hk hne => ?_⟩
  rw [heap_setCell_other w4 ⟨b, j, none⟩ k v4 (fun e => hne (by rw [e]))]
  refine (b5 k (by omega) (fun e => ?_)).trans (a5 k hk hne)
  have := (World.ownsRow.lt h.own k e.symm).1
  omega
theorem RecG.bel {wb : World} (h : RecG tR tP w0 w b cs v l) (hb : Below wb.heap.size wb w0) (hl : wb.heap.size ≤ b) : Below wb.heap.size wb w :=
  hb.grown h.gr hb.size (fun k hk => by cases hk; exact hl)
end
theorem OwnRecs.mono {t : TypeId} {w : World} {B B' : Nat} {v : Value} {l : List Rec} (h : OwnRecs t w B v l) (hb : B' ≤ B) : OwnRecs t w B' v l := by
  rcases h.2 with ⟨rfl, h0⟩ | ⟨g, cap, cur, rfl, hbg, hg, hnc, hcm, hcs, htake⟩
  · exact ⟨h.1, .inl ⟨rfl, h0⟩⟩
  · exact ⟨h.1, .inr ⟨g, cap, cur, rfl, Nat.le_trans hb hbg, hg, hnc, hcm, hcs, htake⟩⟩
end Go.Creel
