/-
  Nodes of a tree of the call's own, written one by one. No program is named here.
-/
import Derived.Test.YtiiojjhfncefgaaDoorCopyR
import Derived.Test.YtiiojjhfncefgaaDoorAnewSpec
namespace Go.Creel
set_option linter.unusedVariables false
set_option linter.unusedSimpArgs false
open Go.RowKit
theorem grownBy_trans {w w1 w2 : World} {row : Option Nat} (h1 : w.grownBy w1 row) (h2 : w1.grownBy w2 row) : w.grownBy w2 row := by
  obtain ⟨a1, a2, a3, a4, a5⟩ := h1
  obtain ⟨b1, b2, b3, b4, b5⟩ := h2
  exact ⟨b1.trans a1, b2.trans a2, b3.trans a3, Nat.le_trans a4 b4, fun k hk hne => (b5 k (Nat.lt_of_lt_of_le hk a4) hne).trans (a5 k hk hne)⟩
theorem set_self (m : List Nod) (k : Nat) (hk : k < m.length) : m.set k (nk m k) = m := by
  rw [nk_eq hk, List.set_getElem_self]
theorem row_step {t : TypeId} {w0 w : World} {B g cap k j : Nat} {m : List Nod} {y : Nod} (h : w.ownsRow B t 12 (.slice (some ⟨g, 0, none⟩) m.length cap) m.length ((m.set k y).flatMap Nod.cells) ∧ w0.grownBy w (some g)) (hk : k < m.length) (hj : j < 12) (y' : Nod) (u : Value) (hy : y'.cells = y.cells.set j u) :
    (w.setCell ⟨g, k * 12 + j, none⟩ u).ownsRow B t 12 (.slice (some ⟨g, 0, none⟩) m.length cap) m.length ((m.set k y').flatMap Nod.cells) ∧ w0.grownBy (w.setCell ⟨g, k * 12 + j, none⟩ u) (some g) := by
  obtain ⟨h1, h2⟩ := h.1.stored (k * 12 + j) u
  rw [flat_set (m.set k y) k j y' u (by rw [List.length_set]; exact hk) hj (by rw [nk_set hk, if_pos rfl]; exact hy), List.set_set] at h1
  exact ⟨h1, grownBy_trans h.2 h2⟩
abbrev setNode (w : World) (g o : Nat) (x : Nod) : World := (((((((((((w.setCell ⟨g, o, none⟩ (.string x.path)).setCell ⟨g, o + 1, none⟩ (.int .i64 x.kind)).setCell ⟨g, o + 2, none⟩ (.int .i64 x.same)).setCell ⟨g, o + 3, none⟩ (.string x.target)).setCell ⟨g, o + 4, none⟩ (.int .i64 x.mt.mode)).setCell ⟨g, o + 5, none⟩ (.int .i64 x.mt.uid)).setCell ⟨g, o + 6, none⟩ (.int .i64 x.mt.gid)).setCell ⟨g, o + 7, none⟩ (.string x.mt.user)).setCell ⟨g, o + 8, none⟩ (.string x.mt.group)).setCell ⟨g, o + 9, none⟩ (.int .i64 x.mt.second)).setCell ⟨g, o + 10, none⟩ (.int .i64 x.mt.nano)).setCell ⟨g, o + 11, none⟩ (.slice x.da x.data.length x.dcap)
theorem OwnNods.putNode {t : TypeId} {w : World} {B g cap k n : Nat} {m : List Nod} {x : Nod} (h : OwnNods t w B (.slice (some ⟨g, 0, none⟩) n cap) m) (hm : m.length = n) (hk : k < n) (hx : NodIn w (.slice (some ⟨g, 0, none⟩) n cap) x) :
    OwnNods t (setNode w g (k * 12) x) B (.slice (some ⟨g, 0, none⟩) n cap) (m.set k x) ∧ w.grownBy (setNode w g (k * 12) x) (some g) := by
  subst hm
  have h0 : w.ownsRow B t 12 (.slice (some ⟨g, 0, none⟩) m.length cap) m.length ((m.set k (nk m k)).flatMap Nod.cells) ∧ w.grownBy w (some g) := ⟨by rw [set_self m k hk]; exact h.1, World.grownBy.refl w _⟩
  generalize nk m k = y at h0
  obtain ⟨p, kd, sm, tg, mt, da, dc, dt⟩ := y
  obtain ⟨a1, a2, a3, a4, a5, a6, a7⟩ := mt
  have s0 := row_step h0 hk (j := 0) (by omega) ⟨x.path, kd, sm, tg, ⟨a1, a2, a3, a4, a5, a6, a7⟩, da, dc, dt⟩ (.string x.path) rfl
  have s1 := row_step s0 hk (j := 1) (by omega) ⟨x.path, x.kind, sm, tg, ⟨a1, a2, a3, a4, a5, a6, a7⟩, da, dc, dt⟩ (.int .i64 x.kind) rfl
  have s2 := row_step s1 hk (j := 2) (by omega) ⟨x.path, x.kind, x.same, tg, ⟨a1, a2, a3, a4, a5, a6, a7⟩, da, dc, dt⟩ (.int .i64 x.same) rfl
  have s3 := row_step s2 hk (j := 3) (by omega) ⟨x.path, x.kind, x.same, x.target, ⟨a1, a2, a3, a4, a5, a6, a7⟩, da, dc, dt⟩ (.string x.target) rfl
  have s4 := row_step s3 hk (j := 4) (by omega) ⟨x.path, x.kind, x.same, x.target, ⟨x.mt.mode, a2, a3, a4, a5, a6, a7⟩, da, dc, dt⟩ (.int .i64 x.mt.mode) rfl
  have s5 := row_step s4 hk (j := 5) (by omega) ⟨x.path, x.kind, x.same, x.target, ⟨x.mt.mode, x.mt.uid, a3, a4, a5, a6, a7⟩, da, dc, dt⟩ (.int .i64 x.mt.uid) rfl
  have s6 := row_step s5 hk (j := 6) (by omega) ⟨x.path, x.kind, x.same, x.target, ⟨x.mt.mode, x.mt.uid, x.mt.gid, a4, a5, a6, a7⟩, da, dc, dt⟩ (.int .i64 x.mt.gid) rfl
  have s7 := row_step s6 hk (j := 7) (by omega) ⟨x.path, x.kind, x.same, x.target, ⟨x.mt.mode, x.mt.uid, x.mt.gid, x.mt.user, a5, a6, a7⟩, da, dc, dt⟩ (.string x.mt.user) rfl
  have s8 := row_step s7 hk (j := 8) (by omega) ⟨x.path, x.kind, x.same, x.target, ⟨x.mt.mode, x.mt.uid, x.mt.gid, x.mt.user, x.mt.group, a6, a7⟩, da, dc, dt⟩ (.string x.mt.group) rfl
  have s9 := row_step s8 hk (j := 9) (by omega) ⟨x.path, x.kind, x.same, x.target, ⟨x.mt.mode, x.mt.uid, x.mt.gid, x.mt.user, x.mt.group, x.mt.second, a7⟩, da, dc, dt⟩ (.int .i64 x.mt.second) rfl
  have s10 := row_step s9 hk (j := 10) (by omega) ⟨x.path, x.kind, x.same, x.target, ⟨x.mt.mode, x.mt.uid, x.mt.gid, x.mt.user, x.mt.group, x.mt.second, x.mt.nano⟩, da, dc, dt⟩ (.int .i64 x.mt.nano) rfl
  have s11 := row_step s10 hk (j := 11) (by omega) x (.slice x.da x.data.length x.dcap) rfl
  refine ⟨⟨by rw [List.length_set]; exact s11.1, fun z hz => ?_⟩, s11.2⟩
  have hin : NodIn w (.slice (some ⟨g, 0, none⟩) m.length cap) z := by
    rcases List.mem_or_eq_of_mem_set hz with a | a
    · exact h.2 z a
    · rw [a]; exact hx
  exact ⟨hin.1.grown s11.2 hin.2, hin.2⟩
theorem OwnNods.nodAtN {t : TypeId} {w : World} {B g cap n k : Nat} {m : List Nod} (h : OwnNods t w B (.slice (some ⟨g, 0, none⟩) n cap) m) (hm : m.length = n) (hk : k < n) : NodAt w g (k * 12) (nk m k) := by
  subst hm
  exact h.nodAt hk
theorem OwnNods.nodInN {t : TypeId} {w : World} {B g cap n k : Nat} {m : List Nod} (h : OwnNods t w B (.slice (some ⟨g, 0, none⟩) n cap) m) (hm : m.length = n) (hk : k < n) : NodIn w (.slice (some ⟨g, 0, none⟩) n cap) (nk m k) := by
  subst hm
  exact h.nodIn hk
theorem OwnNods.frozenAtN {t : TypeId} {w : World} {B g cap n : Nat} {m : List Nod} (h : OwnNods t w B (.slice (some ⟨g, 0, none⟩) n cap) m) (hm : m.length = n) (j : Nat) : w.frozen? ⟨g, j, none⟩ = false := by
  subst hm
  exact h.1.frozenAt j
theorem OwnNods.someAt {t : TypeId} {w : World} {B g cap n j : Nat} {m : List Nod} (h : OwnNods t w B (.slice (some ⟨g, 0, none⟩) n cap) m) (hm : m.length = n) (hj : j < n * 12) : (w.cell? ⟨g, j, none⟩).isSome = true := by
  subst hm
  rw [h.1.cellAt j hj, List.getElem?_eq_getElem (by rw [flat_len]; exact hj)]
  rfl
/-- a number of a node's own, written -/
theorem OwnNods.putSame {t : TypeId} {w : World} {B g cap n k : Nat} {m : List Nod} (h : OwnNods t w B (.slice (some ⟨g, 0, none⟩) n cap) m) (hm : m.length = n) (hk : k < n) (s : Int) (hs : i64 s) :
    OwnNods t (w.setCell ⟨g, k * 12 + 2, none⟩ (.int .i64 s)) B (.slice (some ⟨g, 0, none⟩) n cap) (m.set k { nk m k with same := s }) ∧ w.cell? ⟨g, k * 12 + 2, none⟩ = some (.int .i64 (nk m k).same) ∧ w.frozen? ⟨g, k * 12 + 2, none⟩ = false ∧ B ≤ g := by
  subst hm
  have hx := h.nodIn hk
  obtain ⟨_, _, h2, _⟩ := h.nodAt hk
  exact ⟨(h.put (k := k) (j := 2) hk (by omega) { nk m k with same := s } (.int .i64 s) rfl ⟨⟨hx.1.path, hx.1.kind, hs, hx.1.target, hx.1.mt, hx.1.data⟩, hx.2⟩).1, h2, h.1.frozenAt _, (World.ownsRow.lt h.1 g rfl).1⟩
end Go.Creel
