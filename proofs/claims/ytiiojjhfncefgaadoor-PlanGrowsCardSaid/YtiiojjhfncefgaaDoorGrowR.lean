/-
  creelref.Grown: what lies in memory in a round.
-/
import Derived.Test.YtiiojjhfncefgaaDoorGrowL
namespace Go.Creel
set_option linter.unusedVariables false
set_option linter.unusedSimpArgs false
open Go.RowKit
theorem entFind_all {l : List Ent} {s : ByteArray} {k : Nat} (hk : k ≤ l.length) (h : entFind (l.take k) s < k) : entFind l s = entFind (l.take k) s := by
  have h1 := entFind_lt (l := l.take k) (s := s) (by rw [List.length_take]; omega)
  rw [ek_take h] at h1
  refine entFind_at (by omega) (fun j hj => ?_) h1
  have := entFind_ne (l := l.take k) (s := s) hj
  rwa [ek_take (by omega)] at this
/-- the nodes so far, as the reference makes them -/
def refG (l : List Ent) (k : Nat) : List Nod := (List.range k).map (growN l l.length)
theorem refG_len (l : List Ent) (k : Nat) : (refG l k).length = k := by simp [refG]
theorem refG_succ (l : List Ent) (k : Nat) : refG l (k + 1) = refG l k ++ [growN l l.length k] := by simp [refG, List.range_succ]
theorem refG_all (l : List Ent) : refG l l.length = treeGrown l := rfl
theorem refG_ok {w : World} {l : List Ent} (hz : entsFault l = 0) (hok : ∀ i, i < l.length → (ek l i).Ok maxLen w) {k : Nat} (hk : k ≤ l.length) : ∀ x, x ∈ refG l k → x.Ok maxLen w := by
  intro x hx
  obtain ⟨i, hi, rfl⟩ := List.mem_map.1 hx
  exact growN_ok hz hok (by have := List.mem_range.1 hi; omega)
/-- the node of a link, as the reference makes it -/
theorem ref_link {l : List Ent} (hz : entsFault l = 0) {k : Nat} (hk : k < l.length) (h4 : (ek l k).kind = 4) : entFind l (ek l k).target < l.length ∧
    growN l l.length k = ⟨(ek l k).path, 1, (entFind l (ek l k).target : Int) + 1, ByteArray.empty, (ek l k).mt, (ek l (entFind l (ek l k).target)).da, (ek l (entFind l (ek l k).target)).dcap, (ek l (entFind l (ek l k).target)).data⟩ := by
  obtain ⟨h1, h2, h3, h5⟩ := link_facts hz hk h4
  have he : entFind l (ek l k).target = linkAt l k := entFind_all (by omega) h1
  rw [he]
  refine ⟨by omega, ?_⟩
  rw [growN_link h4]
  have hs := (entFault_size (stepE_zero ((entsFault_all hz).2 (linkAt l k) (by omega))).1).2 h2
  have ht := eq_empty hs
  show (⟨(ek l k).path, (ek l (linkAt l k)).kind, (linkAt l k : Int) + 1, (ek l (linkAt l k)).target, (ek l (linkAt l k)).mt, _, _, _⟩ : Nod) = _
  rw [h2, h3, ht]
  rfl
/-- a round's two boxes, and the nodes so far -/
structure RefSt (tn : TypeId) (w0 W : World) (k b1 : Nat) (v : Value) (x : Ent) (z : Nod) (c : List Nod) : Prop where
  own : OwnNods tn W w0.heap.size v c
  len : c.length = k
  zok : z.Ok maxLen w0
  cok : ∀ n, n ∈ c → n.Ok maxLen w0
  box : OwnNods tn W (b1 + 1) (.slice (some ⟨b1 + 1, 0, none⟩) 1 1) [z]
  below : Below w0.heap.size w0 W
  ent : EntAt W b1 0 x
  apart : ∀ j, v.ownBlock = some j → j < b1
  wb : w0.heap.size ≤ b1
  lt : b1 + 1 < W.heap.size
theorem RefSt.made {te tn : TypeId} {w0 wr : World} {k : Nat} {v : Value} {x : Ent} {c : List Nod} (hx : x.Ok maxLen w0) (hown : OwnNods tn wr w0.heap.size v c) (hl : c.length = k) (hc : ∀ n, n ∈ c → n.Ok maxLen w0) (hb : Below w0.heap.size w0 wr) :
    RefSt tn w0 ((wr.alloc (entBox te x)).alloc (nodBox tn (x.nod 0))) k wr.heap.size v x (x.nod 0) c := by
  have h1 : Below wr.heap.size wr (wr.alloc (entBox te x)) := (Below.refl _ _).alloc (Nat.le_refl _) _
  have hs : (wr.alloc (entBox te x)).heap.size = wr.heap.size + 1 := by simp
  have h2 : Below wr.heap.size wr ((wr.alloc (entBox te x)).alloc (nodBox tn (x.nod 0))) := h1.alloc (by omega) _
  have hz := Ent.nod_ok hx (s := 0) (by unfold i64; omega)
  refine ⟨hown.below h2, hl, hz, hc, ?_, hb.trans (h2.mono hb.size), (entAt_box wr x te).below ((Below.refl _ _).alloc (Nat.le_refl _) _), fun j hj => (World.ownsRow.lt hown.1 j hj).2, hb.size, by simp⟩
  have := box_own (t := tn) (w0 := w0) (w := wr.alloc (entBox te x)) (x := x.nod 0) hz (hb.trans (h1.mono hb.size))
  rw [hs] at this
  exact this
theorem RefSt.onto {tn : TypeId} {w0 W W' : World} {k b1 : Nat} {v : Value} {x : Ent} {z : Nod} {c : List Nod} (h : RefSt tn w0 W k b1 v x z c) (hb : Below W.heap.size W W') : RefSt tn w0 W' k b1 v x z c :=
  ⟨h.own.below hb, h.len, h.zok, h.cok, h.box.below hb, h.below.trans (hb.mono h.below.size), h.ent.below hb, h.apart, h.wb, Nat.lt_of_lt_of_le h.lt hb.size⟩
theorem RefSt.put {tn : TypeId} {w0 W : World} {k b1 : Nat} {v : Value} {x : Ent} {z : Nod} {c : List Nod} (h : RefSt tn w0 W k b1 v x z c) {j : Nat} (hj : j < 12) (z' : Nod) (u : Value) (hz : z'.cells = z.cells.set j u) (hok : z'.Ok maxLen w0) :
    RefSt tn w0 (W.setCell ⟨b1 + 1, j, none⟩ u) k b1 v x z' c := by
  have hwb := h.wb
  have hg : W.grownBy (W.setCell ⟨b1 + 1, j, none⟩ u) (some (b1 + 1)) := grownBy_setCell _ _ _ _
  have hb : Below w0.heap.size w0 (W.setCell ⟨b1 + 1, j, none⟩ u) := h.below.grown hg h.below.size (fun i hi => by cases hi; omega)
  have hp := OwnNods.put (l := [z]) (k := 0) (j := j) h.box (by simp) hj z' u hz (nodIn_ok hok h.below h.box (by omega))
  simp only [Nat.zero_mul, Nat.zero_add, List.set_cons_zero] at hp
  exact ⟨own_kept h.own hg (.inr (fun e => by have := h.apart _ e; omega)) h.cok hb, h.len, hok, h.cok, hp.1, hb, h.ent.grown hg (by simp), h.apart, h.wb, by simpa using h.lt⟩
/-- the box's cells -/
theorem RefSt.cells {tn : TypeId} {w0 W : World} {k b1 : Nat} {v : Value} {x : Ent} {z : Nod} {c : List Nod} (h : RefSt tn w0 W k b1 v x z c) : NodAt W (b1 + 1) 0 z := by
  have := h.box.nodAtN rfl (k := 0) (by omega)
  simp only [Nat.zero_mul] at this
  exact this
theorem RefSt.free {tn : TypeId} {w0 W : World} {k b1 : Nat} {v : Value} {x : Ent} {z : Nod} {c : List Nod} (h : RefSt tn w0 W k b1 v x z c) (j : Nat) : W.frozen? ⟨b1 + 1, j, none⟩ = false := h.box.1.frozenAt j
/-- what is told of node k when the first j members have been looked at -/
def sameAt (l : List Ent) (k j : Nat) : Int := if linkedTo l k j = true then (k : Int) + 1 else 0
theorem sameAt_zero (l : List Ent) (k : Nat) : sameAt l k 0 = 0 := rfl
def tells (l : List Ent) (k j : Nat) : Bool := decide ((ek l j).kind = 4) && ((ek l j).target.toList == (ek l k).path.toList) && decide ((ek l k).kind = 1)
theorem sameAt_yes {l : List Ent} {k j : Nat} (h : tells l k j = true) : sameAt l k (j + 1) = (k : Int) + 1 := by
  unfold sameAt
  rw [linkedTo_succ, if_pos]
  unfold tells at h
  rw [h, Bool.or_true]
theorem sameAt_no {l : List Ent} {k j : Nat} (h : tells l k j = false) : sameAt l k (j + 1) = sameAt l k j := by
  unfold sameAt
  rw [linkedTo_succ]
  unfold tells at h
  rw [h, Bool.or_false]
theorem sameAt_i64 (l : List Ent) {k j : Nat} (h : k ≤ 1000) : i64 (sameAt l k j) := by
  unfold sameAt i64
  split <;> omega
end Go.Creel
