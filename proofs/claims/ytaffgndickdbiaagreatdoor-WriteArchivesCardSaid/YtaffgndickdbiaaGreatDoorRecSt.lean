/-
  A block's row of cells, one of which leads to an own slice of records.
-/
import Derived.Test.YtaffgndickdbiaaGreatDoorRecsOwn
namespace Go.Creel
set_option linter.unusedVariables false
set_option linter.unusedSimpArgs false
open Go.RowKit
theorem ownsRow_elsewhere {w : World} {B size n b j : Nat} {t : TypeId} {v : Value} {xs : List Value} (u : Value) (h : w.ownsRow B t size v n xs) (hne : v.ownBlock ≠ some b) : (w.setCell ⟨b, j, none⟩ u).ownsRow B t size v n xs := by
  refine ⟨h.1, ?_⟩
  rcases h.2 with h0 | ⟨g, cap, cur, rfl, hbg, hg, r⟩
  · exact .inl h0
  · refine .inr ⟨g, cap, cur, rfl, hbg, ?_, r⟩
    rw [heap_setCell_other w ⟨b, j, none⟩ g u (fun e => hne (by rw [e]; rfl))]
    exact hg
theorem ownsRow_form2 {w : World} {B size n : Nat} {t : TypeId} {v : Value} {xs : List Value} (h : w.ownsRow B t size v (n + 1) xs) : ∃ g cap, v = .slice (some ⟨g, 0, none⟩) (n + 1) cap := by
  rcases h.2 with ⟨_, h0⟩ | ⟨g, cap, cur, rfl, _⟩
  · omega
  · exact ⟨g, cap, rfl⟩
structure RecSt (tR tP : TypeId) (w0 w : World) (b : Nat) (cs : Array Value) (v : Value) (l : List Rec) : Prop where
  row : w.heap[b]? = some (.cells cs tP (0, 0))
  own : OwnRecs tR w (b + 1) v l
  low : w0.heap.size ≤ b
  bel : Below w0.heap.size w0 w
section
variable {tR tP : TypeId} {w0 w w' w4 : World} {b : Nat} {cs : Array Value} {v v4 : Value} {l : List Rec}
theorem RecSt.lt (h : RecSt tR tP w0 w b cs v l) : b < w.heap.size := (Array.getElem?_eq_some_iff.1 h.row).1
theorem RecSt.below (h : RecSt tR tP w0 w b cs v l) (hb : Below w.heap.size w w') : RecSt tR tP w0 w' b cs v l :=
  ⟨(hb.block b h.lt).trans h.row, h.own.below hb, h.low, h.bel.trans (hb.mono h.bel.size)⟩
theorem RecSt.cell (h : RecSt tR tP w0 w b cs v l) (j : Nat) : w.cell? ⟨b, j, none⟩ = cs[j]? := cell_of_row w b j cs tP (0, 0) h.row
theorem RecSt.free (h : RecSt tR tP w0 w b cs v l) (j : Nat) : w.frozen? ⟨b, j, none⟩ = false := frozen_of_row w b j cs tP h.row
theorem RecSt.ne (h : RecSt tR tP w0 w b cs v l) : v.ownBlock ≠ some b := fun e => by have := (World.ownsRow.lt h.own b e).1; omega
theorem RecSt.row4 (h : RecSt tR tP w0 w b cs v l) (hg : w.grownBy w4 v.ownBlock) : w4.heap[b]? = some (.cells cs tP (0, 0)) :=
  (by obtain ⟨a1, a2, a3, a4, a5⟩ := hg; exact (a5 b h.lt (fun e => h.ne e.symm)).trans h.row)
theorem RecSt.cell4 (h : RecSt tR tP w0 w b cs v l) (hg : w.grownBy w4 v.ownBlock) (j : Nat) : w4.cell? ⟨b, j, none⟩ = cs[j]? := cell_of_row w4 b j cs tP (0, 0) (h.row4 hg)
theorem RecSt.free4 (h : RecSt tR tP w0 w b cs v l) (hg : w.grownBy w4 v.ownBlock) (j : Nat) : w4.frozen? ⟨b, j, none⟩ = false := frozen_of_row w4 b j cs tP (h.row4 hg)
/-- another cell is written -/
theorem RecSt.put (h : RecSt tR tP w0 w b cs v l) (j : Nat) (u : Value) {cs' : Array Value} (e : cs.setIfInBounds j u = cs') : RecSt tR tP w0 (w.setCell ⟨b, j, none⟩ u) b cs' v l := by
  subst e
  exact ⟨heap_setCell_same w b j _ tP _ h.row, ownsRow_elsewhere _ h.own h.ne, h.low, h.bel.setCell (p := ⟨b, j, none⟩) h.low u⟩
/-- a record put behind the others, and the slice written back -/
theorem RecSt.say (h : RecSt tR tP w0 w b cs v l) (j : Nat) {r : Rec} (ho : w4.ownsRow (b + 1) tR 2 v4 (l.length + 1) (l.flatMap Rec.cl ++ [r].flatMap Rec.cl)) (hg : w.grownBy w4 v.ownBlock) {cs' : Array Value} (e : cs.setIfInBounds j v4 = cs') :
    RecSt tR tP w0 (w4.setCell ⟨b, j, none⟩ v4) b cs' v4 (l ++ [r]) := by
  subst e
  have own4 : OwnRecs tR w4 (b + 1) v4 (l ++ [r]) := OwnRecs.app (m := [r]) ho
  have hne4 : v4.ownBlock ≠ some b := fun e => by have := (World.ownsRow.lt own4 b e).1; omega
  refine ⟨heap_setCell_same w4 b j _ tP _ (h.row4 hg), ownsRow_elsewhere _ own4 hne4, h.low, ?_⟩
  refine Below.setCell ?_ (p := ⟨b, j, none⟩) h.low v4
  exact h.bel.grown hg h.bel.size (fun k hk => by have := (World.ownsRow.lt h.own k hk).1; have := h.low; omega)
theorem RecSt.since {wx : World} (h : RecSt tR tP wx w b cs v l) (hb : Below w0.heap.size w0 wx) : RecSt tR tP w0 w b cs v l :=
  ⟨h.row, h.own, Nat.le_trans hb.size h.low, hb.trans (h.bel.mono hb.size)⟩
end
end Go.Creel
