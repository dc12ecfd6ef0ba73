/-
  Changes of the call's own: their row, and where the nodes' bytes lie. No program is named here.
-/
import Derived.Test.YtaffgndickdbiaaDoorDiffSpec
import Derived.Test.YtaffgndickdbiaaDoorNodsCut
namespace Go.Creel
set_option linter.unusedVariables false
set_option linter.unusedSimpArgs false
open Go.RowKit
def Chg.cells (c : Chg) : List Value := .int .i64 c.kind :: c.node.cells
def ck (l : List Chg) (k : Nat) : Chg := l.getD k ⟨0, nk [] 0⟩
theorem ck_eq {l : List Chg} {k : Nat} (h : k < l.length) : ck l k = l[k] := by simp [ck, List.getD_eq_getElem?_getD, List.getElem?_eq_getElem h]
/-- a change that may lie in the row of v: its node's bytes lie elsewhere -/
def ChgIn (w : World) (v : Value) (x : Chg) : Prop := i64 x.kind ∧ NodIn w v x.node
def ChgC (N : Nat) (w : World) (cs : List Value) (e : Chg) : Prop := cs = e.cells ∧ i64 e.kind ∧ e.node.Ok N w
def ChgAt (w : World) (b o : Nat) (x : Chg) : Prop := w.cell? ⟨b, o, none⟩ = some (.int .i64 x.kind) ∧ NodAt w b (o + 1) x.node
def OwnChgs (t : TypeId) (w : World) (B : Nat) (v : Value) (l : List Chg) : Prop := w.ownsRow B t 13 v l.length (l.flatMap Chg.cells) ∧ ∀ x, x ∈ l → ChgIn w v x
theorem Chg.cells_len (x : Chg) : x.cells.length = 13 := rfl
theorem flatC_len : ∀ l : List Chg, (l.flatMap Chg.cells).length = l.length * 13
  | [] => rfl
  | x :: r => by rw [List.flatMap_cons, List.length_append, flatC_len r, Chg.cells_len, List.length_cons]; omega
theorem flatC_at : ∀ (l : List Chg) (k j : Nat), k < l.length → j < 13 → (l.flatMap Chg.cells)[k * 13 + j]? = (ck l k).cells[j]?
  | [], _, _, h, _ => absurd h (by simp)
  | x :: r, 0, j, _, hj => by
    rw [List.flatMap_cons, Nat.zero_mul, Nat.zero_add, List.getElem?_append_left (by rw [Chg.cells_len]; omega)]
    rfl
  | x :: r, k + 1, j, hk, hj => by
    rw [List.flatMap_cons, List.getElem?_append_right (by rw [Chg.cells_len]; omega), Chg.cells_len]
    have e : (k + 1) * 13 + j - 13 = k * 13 + j := by omega
    rw [e, flatC_at r k j (by simpa using hk) hj]
    rfl
theorem flatC_set : ∀ (l : List Chg) (k j : Nat) (y : Chg) (u : Value), k < l.length → j < 13 → y.cells = (ck l k).cells.set j u → (l.flatMap Chg.cells).set (k * 13 + j) u = (l.set k y).flatMap Chg.cells
  | [], _, _, _, _, h, _, _ => absurd h (by simp)
  | x :: r, 0, j, y, u, _, hj, hy => by
    rw [List.flatMap_cons, Nat.zero_mul, Nat.zero_add, List.set_append_left _ _ (by rw [Chg.cells_len]; omega), List.set_cons_zero, List.flatMap_cons, hy]
    rfl
  | x :: r, k + 1, j, y, u, hk, hj, hy => by
    rw [List.flatMap_cons, List.set_append_right _ _ (by rw [Chg.cells_len]; omega), Chg.cells_len]
    have e : (k + 1) * 13 + j - 13 = k * 13 + j := by omega
    rw [e, flatC_set r k j y u (by simpa using hk) hj hy, List.set_cons_succ, List.flatMap_cons]
section
variable {t : TypeId} {w w' : World} {B : Nat} {v v' : Value} {l m : List Chg}
theorem ChgIn.below {x : Chg} (h : ChgIn w v x) (hb : Below w.heap.size w w') : ChgIn w' v x := ⟨h.1, h.2.below hb⟩
theorem OwnChgs.nil (t : TypeId) (w : World) (B : Nat) : OwnChgs t w B (.slice none 0 0) [] := ⟨World.ownsRow_nil w B t 13, fun x hx => absurd hx (by simp)⟩
theorem OwnChgs.below (h : OwnChgs t w B v l) (hb : Below w.heap.size w w') : OwnChgs t w' B v l := ⟨ownsRow_below h.1 hb, fun x hx => (h.2 x hx).below hb⟩
theorem OwnChgs.mono {B' : Nat} (h : OwnChgs t w B v l) (hb : B' ≤ B) : OwnChgs t w B' v l := by
  refine ⟨⟨h.1.1, ?_⟩, h.2⟩
  rcases h.1.2 with ⟨rfl, h0⟩ | ⟨g, cap, cur, rfl, hbg, r⟩
  · exact .inl ⟨rfl, h0⟩
  · exact .inr ⟨g, cap, cur, rfl, Nat.le_trans hb hbg, r⟩
theorem OwnChgs.slice (h : OwnChgs t w B v l) (hl : l.length ≤ maxLen) : SliceC maxLen 13 (ChgC maxLen) w [v] l := by
  rcases h.1.2 with ⟨rfl, h0⟩ | ⟨g, cap, cur, rfl, hbg, hg, hnc, hcm, hcs, htake⟩
  · obtain rfl := List.eq_nil_of_length_eq_zero h0
    exact ⟨none, 0, rfl, by simp, by simp, by simp, fun _ => rfl, fun h => absurd h (by simp)⟩
  · refine ⟨some ⟨g, 0, none⟩, cap, rfl, hnc, hcm, hl, (fun h => by cases h), fun _ => ⟨g, 0, rfl, fun i hi => ⟨(l[i]).cells, rfl, fun j hj => ?_, rfl, (h.2 _ (List.getElem_mem hi)).1, (h.2 _ (List.getElem_mem hi)).2.1⟩⟩⟩
    rw [Nat.zero_add, h.1.cellAt _ (by omega), flatC_at l i j hi hj, ck_eq hi]
theorem OwnChgs.form (h : OwnChgs t w B v l) : (v = .slice none 0 0 ∧ l = []) ∨ ∃ g cap, v = .slice (some ⟨g, 0, none⟩) l.length cap ∧ B ≤ g ∧ g < w.heap.size ∧ l.length ≤ cap ∧ cap ≤ maxLen := by
  rcases h.1.2 with ⟨rfl, h0⟩ | ⟨g, cap, cur, rfl, hbg, hg, hnc, hcm, hcs, htake⟩
  · exact .inl ⟨rfl, List.eq_nil_of_length_eq_zero h0⟩
  · exact .inr ⟨g, cap, rfl, hbg, (Array.getElem?_eq_some_iff.1 hg).1, hnc, hcm⟩
theorem OwnChgs.chgAt {g cap : Nat} (h : OwnChgs t w B (.slice (some ⟨g, 0, none⟩) l.length cap) l) {k : Nat} (hk : k < l.length) : ChgAt w g (k * 13) (ck l k) := by
  have c := fun j hj => (h.1.cellAt (k * 13 + j) (by omega)).trans (flatC_at l k j hk hj)
  exact ⟨c 0 (by omega), c 1 (by omega), c 2 (by omega), c 3 (by omega), c 4 (by omega), c 5 (by omega), c 6 (by omega), c 7 (by omega), c 8 (by omega), c 9 (by omega), c 10 (by omega), c 11 (by omega), c 12 (by omega)⟩
theorem OwnChgs.chgIn (h : OwnChgs t w B v l) {k : Nat} (hk : k < l.length) : ChgIn w v (ck l k) := by
  rw [ck_eq hk]
  exact h.2 _ (List.getElem_mem hk)
theorem OwnChgs.app (h : OwnChgs t w B v l) (hm : ∀ x, x ∈ m → ChgIn w v x) (ho : w'.ownsRow B t 13 v' (l.length + m.length) (l.flatMap Chg.cells ++ m.flatMap Chg.cells)) (hg : w.grownBy w' v.ownBlock)
    (hv : v'.ownBlock = v.ownBlock ∨ ∃ b, v'.ownBlock = some b ∧ w.heap.size ≤ b) : OwnChgs t w' B v' (l ++ m) := by
  refine ⟨by rw [List.length_append, List.flatMap_append]; exact ho, fun x hx => ?_⟩
  have hin : ChgIn w v x := by
    rcases List.mem_append.1 hx with a | a
    · exact h.2 x a
    · exact hm x a
  refine ⟨hin.1, hin.2.1.grown hg hin.2.2, fun a hp ha => ?_⟩
  rcases hv with e | ⟨b, e, hb⟩
  · rw [e]; exact hin.2.2 a hp ha
  · rw [e]
    intro e2
    have h3 := hin.2.1.lt a hp ha
    simp only [Option.some.injEq] at e2
    omega
end
end Go.Creel
