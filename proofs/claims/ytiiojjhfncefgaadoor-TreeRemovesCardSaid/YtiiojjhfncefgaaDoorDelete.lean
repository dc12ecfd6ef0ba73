/-
  slices.DeleteFunc over a tree of the call's own: the plain words.
-/
import Derived.Test.YtiiojjhfncefgaaDoorCopyR
import Derived.Test.YtiiojjhfncefgaaDoorAnewSpec
import Derived.Test.YtiiojjhfncefgaaDoorPathIn
import Derived.Test.YtiiojjhfncefgaaDoorTreeAll
namespace Go.Creel
set_option linter.unusedVariables false
set_option linter.unusedSimpArgs false
open Go.RowKit
/-- a node that goes with the path s -/
def remB (x : Nod) (s : ByteArray) : Bool := (x.path.toList == s.toList) || pathIn x.path s
theorem run_clear_row {P : Program} (w : World) (t e ty : TypeId) (z : Value) (ht : P.underlying t = some (.slice e)) (hv : ∀ w, (zeroValue e).run P w = .ok z w) (hpos : 0 < z.cells.size) (h1 : ∀ u ∈ z.cells.toList, u.oneCell' = true) (b o n c : Nat) (hn : 0 < n)
    (hc : ∀ j, j < n * z.cells.size → (w.cell? ⟨b, o + j, none⟩).isSome = true) (hf : ∀ j, j < n * z.cells.size → w.frozen? ⟨b, o + j, none⟩ = false) :
    (Builtin.clear_ #[t] ty #[.slice (some ⟨b, o, none⟩) n c]).run P w = .ok (.tuple #[]) (w.setCells b o (Builtin.zeroCells z.cells n).toList) := by
  have hl : (Builtin.zeroCells z.cells n).toList.length = n * z.cells.size := by rw [Array.length_toList, size_zeroCells]
  have hst := run_storeCells_cells (P := P) b o (Builtin.zeroCells z.cells n).toList 0 w (by rw [hl]; simpa using hc) (by rw [hl]; simpa using hf) (by
    intro v hv'
    apply h1
    simp only [Builtin.zeroCells, Array.toList_map, List.mem_map] at hv'
    obtain ⟨i, _, rfl⟩ := hv'
    have : i % z.cells.size < z.cells.size := Nat.mod_lt _ hpos
    rw [getElem!_pos z.cells _ this]
    exact Array.getElem_mem_toList this)
  simp only [Nat.add_zero] at hst
  obtain ⟨m, rfl⟩ : ∃ m, n = m + 1 := ⟨n - 1, by omega⟩
  simp [Builtin.clear_, run_underlying ht, hv, hst]
theorem grownBy_trans {w w1 w2 : World} {row : Option Nat} (h1 : w.grownBy w1 row) (h2 : w1.grownBy w2 row) : w.grownBy w2 row := by
  obtain ⟨a1, a2, a3, a4, a5⟩ := h1
  obtain ⟨b1, b2, b3, b4, b5⟩ := h2
  exact ⟨b1.trans a1, b2.trans a2, b3.trans a3, Nat.le_trans a4 b4, fun k hk hne => (b5 k (Nat.lt_of_lt_of_le hk a4) hne).trans (a5 k hk hne)⟩
theorem set_self (m : List Nod) (k : Nat) (hk : k < m.length) : m.set k (nk m k) = m := by
  rw [nk_eq hk, List.set_getElem_self]
theorem row_step {t : TypeId} {w0 w : World} {B g cap k j : Nat} {m : List Nod} {y : Nod} (h : w.ownsRow B t 12 (.slice (some ⟨g, 0, none⟩) m.length cap) m.length ((m.set k y).flatMap Nod.cells) ∧ w0.grownBy w (some g)) (hk : k < m.length) (hj : j < 12) (y' : Nod) (u : Value) (hy : y'.cells = y.cells.set j u) :
    (w.setCell ⟨g, k * 12 + j, none⟩ u).ownsRow B t 12 (.slice (some ⟨g, 0, none⟩) m.length cap) m.length ((m.set k y').flatMap Nod.cells) ∧ w0.grownBy (w.setCell ⟨g, k * 12 + j, none⟩ u) (some g) := by
  obtain ⟨h1, h2⟩ := h.1.stored (k * 12 + j) u
  rw [flat_set (m.set k y) k j y' u (by rw [List.length_set]; exact hk) hj (by rw [nk_set hk, if_pos rfl]; exact hy), List.set_set] at h1
  exact ⟨h1, grownBy_trans h.2 h2⟩
abbrev setNode (w : World) (g o : Nat) (x : Nod) : World := (((((((((((w.setCell ⟨g, o, none⟩ (.string x.path)).setCell ⟨g, o + 1, none⟩ (.int .i64 x.kind)).setCell ⟨g, o + 2, none⟩ (.int .i64 x.same)).setCell ⟨g, o + 3, none⟩ (.string x.target)).setCell ⟨g, o + 4, none⟩ (.int .i64 x.mt.mode)).setCell ⟨g, o + 5, none⟩ (.int .i64 x.mt.uid)).setCell ⟨g, o + 6, none⟩ (.int .i64 x.mt.gid)).setCell ⟨g, o + 7, none⟩ (.string x.mt.user)).setCell ⟨g, o + 8, none⟩ (.string x.mt.group)).setCell ⟨g, o + 9, none⟩ (.int .i64 x.mt.second)).setCell ⟨g, o + 10, none⟩ (.int .i64 x.mt.nano)).setCell ⟨g, o + 11, none⟩ (.slice x.da x.data.length x.dcap)
theorem OwnNods.putNode {t : TypeId} {w : World} {B g cap k n : Nat} {m : List Nod} {x : Nod} (h : OwnNods t w B (.slice (some ⟨g, 0, none⟩) n cap) m) (hm : m.length = n) (hk : k < n) (hx : NodIn w (.slice (some ⟨g, 0, none⟩) n cap) x) :
    OwnNods t (setNode w g (k * 12) x) B (.slice (some ⟨g, 0, none⟩) n cap) (m.set k x) ∧ w.grownBy (setNode w g (k * 12) x) (some g) := by
  subst hm
  have h0 : w.ownsRow B t 12 (.slice (some ⟨g, 0, none⟩) m.length cap) m.length ((m.set k (nk m k)).flatMap Nod.cells) ∧ w.grownBy w (some g) := ⟨by rw [set_self m k hk]; exact h.1, World.grownBy.refl w _⟩
  generalize nk m k = y at h0
  obtain ⟨p, kd, sm, tg, mt, da, dc, dt⟩ := y
  obtain ⟨a1, a2, a3, a4, a5, a6, a7⟩ := mt
  have s0 := row_step h0 hk (j := 0) (by omega) ⟨x.path, kd, sm, tg, ⟨a1, a2, a3, a4, a5, a6, a7⟩, da, dc, dt⟩ (.string x.path) rfl
  have s1 := row_step s0 hk (j := 1) (by omega) ⟨x.path, x.kind, sm, tg, ⟨a1, a2, a3, a4, a5, a6, a7⟩, da, dc, dt⟩ (.int .i64 x.kind) rfl
  have s2 := row_step s1 hk (j := 2) (by omega) ⟨x.path, x.kind, x.same, tg, ⟨a1, a2, a3, a4, a5, a6, a7⟩, da, dc, dt⟩ (.int .i64 x.same) rfl
  have s3 := row_step s2 hk (j := 3) (by omega) ⟨x.path, x.kind, x.same, x.target, ⟨a1, a2, a3, a4, a5, a6, a7⟩, da, dc, dt⟩ (.string x.target) rfl
  have s4 := row_step s3 hk (j := 4) (by omega) ⟨x.path, x.kind, x.same, x.target, ⟨x.mt.mode, a2, a3, a4, a5, a6, a7⟩, da, dc, dt⟩ (.int .i64 x.mt.mode) rfl
  have s5 := row_step s4 hk (j := 5) (by omega) ⟨x.path, x.kind, x.same, x.target, ⟨x.mt.mode, x.mt.uid, a3, a4, a5, a6, a7⟩, da, dc, dt⟩ (.int .i64 x.mt.uid) rfl
  have s6 := row_step s5 hk (j := 6) (by omega) ⟨x.path, x.kind, x.same, x.target, ⟨x.mt.mode, x.mt.uid, x.mt.gid, a4, a5, a6, a7⟩, da, dc, dt⟩ (.int .i64 x.mt.gid) rfl
  have s7 := row_step s6 hk (j := 7) (by omega) ⟨x.path, x.kind, x.same, x.target, ⟨x.mt.mode, x.mt.uid, x.mt.gid, x.mt.user, a5, a6, a7⟩, da, dc, dt⟩ (.string x.mt.user) rfl
  have s8 := row_step s7 hk (j := 8) (by omega) ⟨x.path, x.kind, x.same, x.target, ⟨x.mt.mode, x.mt.uid, x.mt.gid, x.mt.user, x.mt.group, a6, a7⟩, da, dc, dt⟩ (.string x.mt.group) rfl
  have s9 := row_step s8 hk (j := 9) (by omega) ⟨x.path, x.kind, x.same, x.target, ⟨x.mt.mode, x.mt.uid, x.mt.gid, x.mt.user, x.mt.group, x.mt.second, a7⟩, da, dc, dt⟩ (.int .i64 x.mt.second) rfl
  have s10 := row_step s9 hk (j := 10) (by omega) ⟨x.path, x.kind, x.same, x.target, ⟨x.mt.mode, x.mt.uid, x.mt.gid, x.mt.user, x.mt.group, x.mt.second, x.mt.nano⟩, da, dc, dt⟩ (.int .i64 x.mt.nano) rfl
  have s11 := row_step s10 hk (j := 11) (by omega) x (.slice x.da x.data.length x.dcap) rfl
  refine ⟨⟨by rw [List.length_set]; exact s11.1, fun z hz => ?_⟩, s11.2⟩
  have hin : NodIn w (.slice (some ⟨g, 0, none⟩) m.length cap) z := by
    rcases List.mem_or_eq_of_mem_set hz with a | a
    · exact h.2 z a
    · rw [a]; exact hx
  exact ⟨hin.1.grown s11.2 hin.2, hin.2⟩
theorem OwnNods.nodAtN {t : TypeId} {w : World} {B g cap n k : Nat} {m : List Nod} (h : OwnNods t w B (.slice (some ⟨g, 0, none⟩) n cap) m) (hm : m.length = n) (hk : k < n) : NodAt w g (k * 12) (nk m k) := by
  subst hm
  exact h.nodAt hk
theorem OwnNods.nodInN {t : TypeId} {w : World} {B g cap n k : Nat} {m : List Nod} (h : OwnNods t w B (.slice (some ⟨g, 0, none⟩) n cap) m) (hm : m.length = n) (hk : k < n) : NodIn w (.slice (some ⟨g, 0, none⟩) n cap) (nk m k) := by
  subst hm
  exact h.nodIn hk
theorem OwnNods.frozenAtN {t : TypeId} {w : World} {B g cap n : Nat} {m : List Nod} (h : OwnNods t w B (.slice (some ⟨g, 0, none⟩) n cap) m) (hm : m.length = n) (j : Nat) : w.frozen? ⟨g, j, none⟩ = false := by
  subst hm
  exact h.1.frozenAt j
theorem OwnNods.someAt {t : TypeId} {w : World} {B g cap n j : Nat} {m : List Nod} (h : OwnNods t w B (.slice (some ⟨g, 0, none⟩) n cap) m) (hm : m.length = n) (hj : j < n * 12) : (w.cell? ⟨g, j, none⟩).isSome = true := by
  subst hm
  rw [h.1.cellAt j hj, List.getElem?_eq_getElem (by rw [flat_len]; exact hj)]
  rfl
theorem flat_take : ∀ (l : List Nod) (i : Nat), (l.flatMap Nod.cells).take (i * 12) = (l.take i).flatMap Nod.cells
  | [], i => by simp
  | x :: r, 0 => by simp
  | x :: r, i + 1 => by
    rw [List.flatMap_cons, List.take_succ_cons, List.flatMap_cons, ← flat_take r i, List.take_append]
    have e : (i + 1) * 12 - x.cells.length = i * 12 := by rw [Nod.cells_len]; omega
    rw [e, List.take_of_length_le (by rw [Nod.cells_len]; omega)]
/-- the first i of the row, whatever was written behind them -/
theorem OwnNods.cutAt {t : TypeId} {w : World} {B g cap i n : Nat} {m : List Nod} (h : OwnNods t w B (.slice (some ⟨g, 0, none⟩) n cap) m) (hm : m.length = n) (hi : i ≤ n) (zs : List Value) (hz : i * 12 + zs.length ≤ n * 12) :
    OwnNods t (w.setCells g (i * 12) zs) B (.slice (some ⟨g, 0, none⟩) i cap) (m.take i) ∧ w.grownBy (w.setCells g (i * 12) zs) (some g) := by
  subst hm
  obtain ⟨m1, m2, m3, m4⟩ := setCells_meta g zs (i * 12) w
  have hg : w.grownBy (w.setCells g (i * 12) zs) (some g) := ⟨m1, m2, m3, by omega, fun k _ hk => setCells_other g zs _ w k (fun e => hk (by rw [e]))⟩
  refine ⟨⟨?_, fun x hx => ?_⟩, hg⟩
  · have hl : (m.take i).length = i := by rw [List.length_take]; omega
    rw [hl]
    refine ⟨by rw [flat_len, hl], ?_⟩
    rcases h.1.2 with ⟨h', _⟩ | ⟨g', cap', cur, h', hb, hgg, hnc, hcm, hcs, htake⟩
    · cases h'
    · simp only [Value.slice.injEq, Option.some.injEq, Addr.mk.injEq, and_true, true_and] at h'
      obtain ⟨rfl, rfl⟩ := h'
      have hfit : i * 12 + zs.length ≤ cur.size := by rw [hcs]; omega
      obtain ⟨cur', a1, a2, a3⟩ := setCells_row g zs (i * 12) w cur hgg hfit
      refine .inr ⟨g, cap, cur', rfl, hb, a1, by omega, hcm, a2.trans hcs, ?_⟩
      have e1 : cur'.toList.take (i * 12) = cur.toList.take (i * 12) := by
        have e2 := congrArg (List.take (i * 12)) a3
        rw [List.take_take, Nat.min_eq_left (by omega), List.take_left' (by rw [List.length_take, Array.length_toList]; omega)] at e2
        exact e2
      rw [e1, ← flat_take, ← htake, List.take_take, Nat.min_eq_left (by omega)]
  · have hin := h.2 x (List.mem_of_mem_take hx)
    exact ⟨hin.1.grown hg hin.2, hin.2⟩
/-- j of them looked at: what stays lies in the first i places -/
def DelTo (p : Nod → Bool) (c m : List Nod) (i j : Nat) : Prop := m.length = c.length ∧ m.take i = (c.take j).filter p ∧ (∀ q, j ≤ q → q < c.length → nk m q = nk c q) ∧ i < j
theorem DelTo.start {p : Nod → Bool} {c : List Nod} {k : Nat} (hk : k < c.length) (h1 : ∀ j, j < k → p (nk c j) = true) (h2 : p (nk c k) = false) : DelTo p c c k (k + 1) := by
  refine ⟨rfl, ?_, fun _ _ _ => rfl, by omega⟩
  rw [take_nk hk, List.filter_append, List.filter_cons_of_neg (by simpa using h2)]
  simp only [List.filter_nil, List.append_nil]
  symm
  rw [List.filter_eq_self]
  intro a ha
  obtain ⟨j, hj, rfl⟩ := List.mem_iff_getElem.1 ha
  rw [List.length_take] at hj
  rw [List.getElem_take, ← nk_eq (by omega)]
  exact h1 j (by omega)
theorem DelTo.skip {p : Nod → Bool} {c m : List Nod} {i j : Nat} (h : DelTo p c m i j) (hj : j < c.length) (h2 : p (nk c j) = false) : DelTo p c m i (j + 1) := by
  obtain ⟨a1, a2, a3, a4⟩ := h
  refine ⟨a1, ?_, fun q hq hl => a3 q (by omega) hl, by omega⟩
  rw [take_nk hj, List.filter_append, List.filter_cons_of_neg (by simpa using h2), a2]
  simp
theorem DelTo.keep {p : Nod → Bool} {c m : List Nod} {i j : Nat} (h : DelTo p c m i j) (hj : j < c.length) (h2 : p (nk c j) = true) : DelTo p c (m.set i (nk c j)) (i + 1) (j + 1) := by
  obtain ⟨a1, a2, a3, a4⟩ := h
  refine ⟨by rw [List.length_set]; exact a1, ?_, fun q hq hl => ?_, by omega⟩
  · rw [take_nk hj, List.filter_append, List.filter_cons_of_pos h2, ← a2, List.take_succ_eq_append_getElem (by rw [List.length_set]; omega), List.take_set_of_le (Nat.le_refl _)]
    simp
  · rw [nk_set (by omega), if_neg (by omega)]
    exact a3 q (by omega) hl
theorem DelTo.done {p : Nod → Bool} {c m : List Nod} {i : Nat} (h : DelTo p c m i c.length) : m.take i = c.filter p := by
  rw [h.2.1, List.take_length]
end Go.Creel
