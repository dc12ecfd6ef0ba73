/-
  A tree of the call's own: its row, and where its bytes lie. No program is named here.
-/
import Derived.Test.YtaffgndickdbiaaDoorTree
import Derived.Test.YtaffgndickdbiaaDoorAppend
namespace Go.Creel
set_option linter.unusedVariables false
set_option linter.unusedSimpArgs false
open Go.RowKit
abbrev Nod.dat (x : Nod) : Value := .slice x.da x.data.length x.dcap
/-- the node, but for where its bytes lie -/
def Nod.bare (x : Nod) : Nod := { x with da := none, dcap := 0 }
/-- a node that may lie in the row of v: its bytes lie elsewhere -/
def NodIn (w : World) (v : Value) (x : Nod) : Prop := x.Ok maxLen w ∧ ∀ a, 0 < x.data.length → x.da = some a → v.ownBlock ≠ some a.block
def OwnNods (t : TypeId) (w : World) (B : Nat) (v : Value) (l : List Nod) : Prop := w.ownsRow B t 12 v l.length (l.flatMap Nod.cells) ∧ ∀ x, x ∈ l → NodIn w v x
theorem Nod.cells_len (x : Nod) : x.cells.length = 12 := rfl
theorem flat_len : ∀ l : List Nod, (l.flatMap Nod.cells).length = l.length * 12
  | [] => rfl
  | x :: r => by rw [List.flatMap_cons, List.length_append, flat_len r, Nod.cells_len, List.length_cons]; omega
theorem flat_at : ∀ (l : List Nod) (k j : Nat), k < l.length → j < 12 → (l.flatMap Nod.cells)[k * 12 + j]? = (nk l k).cells[j]?
  | [], _, _, h, _ => absurd h (by simp)
  | x :: r, 0, j, _, hj => by
    rw [List.flatMap_cons, Nat.zero_mul, Nat.zero_add, List.getElem?_append_left (by rw [Nod.cells_len]; omega)]
    rfl
  | x :: r, k + 1, j, hk, hj => by
    rw [List.flatMap_cons, List.getElem?_append_right (by rw [Nod.cells_len]; omega), Nod.cells_len]
    have e : (k + 1) * 12 + j - 12 = k * 12 + j := by omega
    rw [e, flat_at r k j (by simpa using hk) hj]
    rfl
theorem flat_set : ∀ (l : List Nod) (k j : Nat) (y : Nod) (u : Value), k < l.length → j < 12 → y.cells = (nk l k).cells.set j u → (l.flatMap Nod.cells).set (k * 12 + j) u = (l.set k y).flatMap Nod.cells
  | [], _, _, _, _, h, _, _ => absurd h (by simp)
  | x :: r, 0, j, y, u, _, hj, hy => by
    rw [List.flatMap_cons, Nat.zero_mul, Nat.zero_add, List.set_append_left _ _ (by rw [Nod.cells_len]; omega), List.set_cons_zero, List.flatMap_cons, hy]
    rfl
  | x :: r, k + 1, j, y, u, hk, hj, hy => by
    rw [List.flatMap_cons, List.set_append_right _ _ (by rw [Nod.cells_len]; omega), Nod.cells_len]
    have e : (k + 1) * 12 + j - 12 = k * 12 + j := by omega
    rw [e, flat_set r k j y u (by simpa using hk) hj hy, List.set_cons_succ, List.flatMap_cons]
theorem ownsRow_below {w w' : World} {B size n : Nat} {t : TypeId} {v : Value} {xs : List Value} (h : w.ownsRow B t size v n xs) (hb : Below w.heap.size w w') : w'.ownsRow B t size v n xs := by
  refine ⟨h.1, ?_⟩
  rcases h.2 with h0 | ⟨g, cap, cur, hv, hbg, hg, r⟩
  · exact .inl h0
  · refine .inr ⟨g, cap, cur, hv, hbg, ?_, r⟩
    rw [hb.block g (Array.getElem?_eq_some_iff.1 hg).1]
    exact hg
theorem bytesC_grown {w w' : World} {row : Option Nat} {a : Option Addr} {cap : Nat} {l : List UInt8} (h : SliceC maxLen 1 ByteC w [.slice a l.length cap] l) (hg : w.grownBy w' row) (hne : ∀ p, 0 < l.length → a = some p → row ≠ some p.block) : SliceC maxLen 1 ByteC w' [.slice a l.length cap] l := by
  obtain ⟨a', cap', hv, h1, h2, h3, h5, h4⟩ := h
  simp only [List.cons.injEq, Value.slice.injEq, and_true, true_and] at hv
  obtain ⟨rfl, rfl⟩ := hv
  refine ⟨a, cap, rfl, h1, h2, h3, h5, fun hl => ?_⟩
  obtain ⟨b, off, rfl, hc⟩ := h4 hl
  refine ⟨b, off, rfl, fun i hi => ?_⟩
  obtain ⟨c, hcl, hcc, hE⟩ := hc i hi
  refine ⟨c, hcl, fun j hj => ?_, hE⟩
  have hx := hcc j hj
  obtain ⟨u, hu⟩ : ∃ u, c[j]? = some u := ⟨c[j], List.getElem?_eq_getElem (by omega)⟩
  rw [hu] at hx ⊢
  exact hg.cell hx (fun e => hne _ hl rfl e.symm)
theorem bytesC_lt {w : World} {a : Option Addr} {cap : Nat} {l : List UInt8} (h : SliceC maxLen 1 ByteC w [.slice a l.length cap] l) (p : Addr) (hl : 0 < l.length) (hp : a = some p) : p.block < w.heap.size := by
  obtain ⟨a', cap', hv, h1, h2, h3, h5, h4⟩ := h
  simp only [List.cons.injEq, Value.slice.injEq, and_true, true_and] at hv
  obtain ⟨rfl, rfl⟩ := hv
  obtain ⟨b, off, he, hc⟩ := h4 hl
  obtain ⟨c, hcl, hcc, hE⟩ := hc 0 hl
  have hx := hcc 0 (by omega)
  rw [List.getElem?_eq_getElem (by omega)] at hx
  rw [hp] at he
  cases he
  exact World.block_lt_of_cell? w ⟨b, _, none⟩ hx
theorem Nod.Ok.grown {w w' : World} {x : Nod} {row : Option Nat} (h : x.Ok maxLen w) (hg : w.grownBy w' row) (hne : ∀ p, 0 < x.data.length → x.da = some p → row ≠ some p.block) : x.Ok maxLen w' :=
  ⟨h.path, h.kind, h.same, h.target, h.mt, bytesC_grown h.data hg hne⟩
theorem Nod.Ok.lt {w : World} {x : Nod} (h : x.Ok maxLen w) (p : Addr) (hl : 0 < x.data.length) (hp : x.da = some p) : p.block < w.heap.size := bytesC_lt h.data p hl hp
section
variable {t : TypeId} {w w' : World} {B : Nat} {v v' : Value} {l m : List Nod}
theorem NodIn.below {x : Nod} (h : NodIn w v x) (hb : Below w.heap.size w w') : NodIn w' v x := ⟨h.1.below hb, h.2⟩
theorem OwnNods.nil (t : TypeId) (w : World) (B : Nat) : OwnNods t w B (.slice none 0 0) [] := ⟨World.ownsRow_nil w B t 12, fun x hx => absurd hx (by simp)⟩
theorem OwnNods.below (h : OwnNods t w B v l) (hb : Below w.heap.size w w') : OwnNods t w' B v l := ⟨ownsRow_below h.1 hb, fun x hx => (h.2 x hx).below hb⟩
theorem OwnNods.mono {B' : Nat} (h : OwnNods t w B v l) (hb : B' ≤ B) : OwnNods t w B' v l := by
  refine ⟨⟨h.1.1, ?_⟩, h.2⟩
  rcases h.1.2 with ⟨rfl, h0⟩ | ⟨g, cap, cur, rfl, hbg, r⟩
  · exact .inl ⟨rfl, h0⟩
  · exact .inr ⟨g, cap, cur, rfl, Nat.le_trans hb hbg, r⟩
theorem OwnNods.slice (h : OwnNods t w B v l) (hl : l.length ≤ maxLen) : SliceC maxLen 12 (NodC maxLen) w [v] l := by
  rcases h.1.2 with ⟨rfl, h0⟩ | ⟨g, cap, cur, rfl, hbg, hg, hnc, hcm, hcs, htake⟩
  · obtain rfl := List.eq_nil_of_length_eq_zero h0
    exact ⟨none, 0, rfl, by simp, by simp, by simp, fun _ => rfl, fun h => absurd h (by simp)⟩
  · refine ⟨some ⟨g, 0, none⟩, cap, rfl, hnc, hcm, hl, (fun h => by cases h), fun _ => ⟨g, 0, rfl, fun i hi => ⟨(l[i]).cells, rfl, fun j hj => ?_, rfl, (h.2 _ (List.getElem_mem hi)).1⟩⟩⟩
    rw [Nat.zero_add, h.1.cellAt _ (by omega), flat_at l i j hi hj, nk_eq hi]
theorem OwnNods.form (h : OwnNods t w B v l) : (v = .slice none 0 0 ∧ l = []) ∨ ∃ g cap, v = .slice (some ⟨g, 0, none⟩) l.length cap ∧ B ≤ g ∧ g < w.heap.size ∧ l.length ≤ cap ∧ cap ≤ maxLen := by
  rcases h.1.2 with ⟨rfl, h0⟩ | ⟨g, cap, cur, rfl, hbg, hg, hnc, hcm, hcs, htake⟩
  · exact .inl ⟨rfl, List.eq_nil_of_length_eq_zero h0⟩
  · exact .inr ⟨g, cap, rfl, hbg, (Array.getElem?_eq_some_iff.1 hg).1, hnc, hcm⟩
theorem OwnNods.nodAt {g cap : Nat} (h : OwnNods t w B (.slice (some ⟨g, 0, none⟩) l.length cap) l) {k : Nat} (hk : k < l.length) : NodAt w g (k * 12) (nk l k) := by
  have c := fun j hj => (h.1.cellAt (k * 12 + j) (by omega)).trans (flat_at l k j hk hj)
  exact ⟨c 0 (by omega), c 1 (by omega), c 2 (by omega), c 3 (by omega), c 4 (by omega), c 5 (by omega), c 6 (by omega), c 7 (by omega), c 8 (by omega), c 9 (by omega), c 10 (by omega), c 11 (by omega)⟩
theorem OwnNods.nodIn (h : OwnNods t w B v l) {k : Nat} (hk : k < l.length) : NodIn w v (nk l k) := by
  rw [nk_eq hk]
  exact h.2 _ (List.getElem_mem hk)
theorem OwnNods.app (h : OwnNods t w B v l) (hm : ∀ x, x ∈ m → NodIn w v x) (ho : w'.ownsRow B t 12 v' (l.length + m.length) (l.flatMap Nod.cells ++ m.flatMap Nod.cells)) (hg : w.grownBy w' v.ownBlock)
    (hv : v'.ownBlock = v.ownBlock ∨ ∃ b, v'.ownBlock = some b ∧ w.heap.size ≤ b) : OwnNods t w' B v' (l ++ m) := by
  refine ⟨by rw [List.length_append, List.flatMap_append]; exact ho, fun x hx => ?_⟩
  have hin : NodIn w v x := by
    rcases List.mem_append.1 hx with a | a
    · exact h.2 x a
    · exact hm x a
  refine ⟨hin.1.grown hg hin.2, fun a hp ha => ?_⟩
  rcases hv with e | ⟨b, e, hb⟩
  · rw [e]; exact hin.2 a hp ha
  · rw [e]
    intro e2
    have h3 := hin.1.lt a hp ha
    simp only [Option.some.injEq] at e2
    omega
theorem OwnNods.put {g cap k j : Nat} (h : OwnNods t w B (.slice (some ⟨g, 0, none⟩) l.length cap) l) (hk : k < l.length) (hj : j < 12) (y : Nod) (u : Value) (hy : y.cells = (nk l k).cells.set j u)
    (hin : NodIn w (.slice (some ⟨g, 0, none⟩) l.length cap) y) : OwnNods t (w.setCell ⟨g, k * 12 + j, none⟩ u) B (.slice (some ⟨g, 0, none⟩) l.length cap) (l.set k y) ∧ w.grownBy (w.setCell ⟨g, k * 12 + j, none⟩ u) (some g) := by
  obtain ⟨h1, h2⟩ := h.1.stored (k * 12 + j) u
  refine ⟨⟨?_, fun x hx => ?_⟩, h2⟩
  · rw [flat_set l k j y u hk hj hy] at h1
    rw [List.length_set]
    exact h1
  · have hin' : NodIn w (.slice (some ⟨g, 0, none⟩) l.length cap) x := by
      rcases List.mem_or_eq_of_mem_set hx with a | a
      · exact h.2 x a
      · rw [a]; exact hin
    exact ⟨hin'.1.grown h2 hin'.2, hin'.2⟩
end
/-- the cells of a node in a box as a source -/
theorem src_nod {P : Program} (w : World) (tx e' e : TypeId) (hk : P.underlying tx = some (.slice e')) (x : Nod) : Src P 12 tx (.slice (some ⟨w.heap.size, 0, none⟩) 1 1) 1 ([x].flatMap Nod.cells) (w.alloc (.cells #[.string x.path, .int .i64 x.kind, .int .i64 x.same, .string x.target, .int .i64 x.mt.mode, .int .i64 x.mt.uid, .int .i64 x.mt.gid, .string x.mt.user, .string x.mt.group, .int .i64 x.mt.second, .int .i64 x.mt.nano, .slice x.da x.data.length x.dcap] e)) := by
  refine Src.ofSlice _ hk ⟨w.heap.size, 0, none⟩ 1 1 _ rfl (fun j u hu => ?_) (fun u hu => ?_)
  · have hj : j < 12 := by
      rcases Nat.lt_or_ge j 12 with h | h
      · exact h
      · rw [List.getElem?_eq_none (by simpa [Nod.cells] using h)] at hu; cases hu
    have e : (⟨w.heap.size, 0, none⟩ : Addr).add j = ⟨w.heap.size, j, none⟩ := by unfold Addr.add; split <;> simp_all
    rw [e, World.cell?_alloc_new]
    simpa [Nod.cells] using hu
  · simp [Nod.cells] at hu
    rcases hu with rfl | rfl | rfl | rfl | rfl | rfl | rfl | rfl | rfl | rfl | rfl | rfl <;> rfl
/-- a new tree -/
def RetT (t : TypeId) (w : World) (l : List Nod) (e : Ending) (w' : World) : Prop := ∃ v l', e = .returned v ∧ OwnNods t w' w.heap.size v l' ∧ l'.map Nod.bare = l.map Nod.bare ∧ Below w.heap.size w w'
/-- a new tree and a number -/
def RetTE (t : TypeId) (w : World) (p : List Nod × Int) (e : Ending) (w' : World) : Prop := ∃ v l', e = .returned (.tuple #[v, .int .i64 p.2]) ∧ OwnNods t w' w.heap.size v l' ∧ l'.map Nod.bare = p.1.map Nod.bare ∧ Below w.heap.size w w'
end Go.Creel
