/-
  Texts: NodsOwn, Alike, TreeSpec, NodFault, TreeFault, NodRight, Compare, Map, TreeCheck, BoxOf, SameTree.
-/
import Derived.Test.YtaffgndickdbiaaDoorS02
import Derived.StillTailTactics
import Derived.Deep.CutRange
import Derived.MapKept
import Derived.Maps.OwnSet
set_option linter.unusedVariables false
set_option linter.unusedSimpArgs false
set_option linter.unusedSectionVars false
namespace Go.Creel
open Go.RowKit
def Nod.bare (x : Nod) : Nod := { x with da := none, dcap := 0 }
def NodIn (w : World) (v : Value) (x : Nod) : Prop := x.Ok maxLen w ∧ ∀ a, 0 < x.data.length → x.da = some a → v.ownBlock ≠ some a.block
def OwnNods (t : TypeId) (w : World) (B : Nat) (v : Value) (l : List Nod) : Prop := w.ownsRow B t 12 v l.length (l.flatMap Nod.cells) ∧ ∀ x, x ∈ l → NodIn w v x
theorem Nod.cells_len (x : Nod) : x.cells.length = 12 := rfl
theorem flat_len : ∀ l : List Nod, (l.flatMap Nod.cells).length = l.length * 12
  | [] => rfl
  | x :: r => by rw [List.flatMap_cons, List.length_append, flat_len r, Nod.cells_len, List.length_cons]; omega
theorem flat_at : ∀ (l : List Nod) (k j : Nat), k < l.length → j < 12 → (l.flatMap Nod.cells)[k * 12 + j]? = (nk l k).cells[j]?
  | [], _, _, h, _ => absurd h (by simp)
  | x :: r, 0, j, _, hj => by
    rw [List.flatMap_cons, Nat.zero_mul, Nat.zero_add, List.getElem?_append_left (by rw [Nod.cells_len]; omega)]
    rfl
  | x :: r, k + 1, j, hk, hj => by
    rw [List.flatMap_cons, List.getElem?_append_right (by rw [Nod.cells_len]; omega), Nod.cells_len]
    have e : (k + 1) * 12 + j - 12 = k * 12 + j := by omega
    rw [e, flat_at r k j (by simpa using hk) hj]
    rfl
theorem flat_set : ∀ (l : List Nod) (k j : Nat) (y : Nod) (u : Value), k < l.length → j < 12 → y.cells = (nk l k).cells.set j u → (l.flatMap Nod.cells).set (k * 12 + j) u = (l.set k y).flatMap Nod.cells
  | [], _, _, _, _, h, _, _ => absurd h (by simp)
  | x :: r, 0, j, y, u, _, hj, hy => by
    rw [List.flatMap_cons, Nat.zero_mul, Nat.zero_add, List.set_append_left _ _ (by rw [Nod.cells_len]; omega), List.set_cons_zero, List.flatMap_cons, hy]
    rfl
  | x :: r, k + 1, j, y, u, hk, hj, hy => by
    rw [List.flatMap_cons, List.set_append_right _ _ (by rw [Nod.cells_len]; omega), Nod.cells_len]
    have e : (k + 1) * 12 + j - 12 = k * 12 + j := by omega
    rw [e, flat_set r k j y u (by simpa using hk) hj hy, List.set_cons_succ, List.flatMap_cons]
theorem ownsRow_below {w w' : World} {B size n : Nat} {t : TypeId} {v : Value} {xs : List Value} (h : w.ownsRow B t size v n xs) (hb : Below w.heap.size w w') : w'.ownsRow B t size v n xs := by
  refine ⟨h.1, ?_⟩
  rcases h.2 with h0 | ⟨g, cap, cur, hv, hbg, hg, r⟩
  · exact .inl h0
  · refine .inr ⟨g, cap, cur, hv, hbg, ?_, r⟩
    rw [hb.block g (Array.getElem?_eq_some_iff.1 hg).1]
    exact hg
theorem bytesC_grown {w w' : World} {row : Option Nat} {a : Option Addr} {cap : Nat} {l : List UInt8} (h : SliceC maxLen 1 ByteC w [.slice a l.length cap] l) (hg : w.grownBy w' row) (hne : ∀ p, 0 < l.length → a = some p → row ≠ some p.block) : SliceC maxLen 1 ByteC w' [.slice a l.length cap] l := by
  obtain ⟨a', cap', hv, h1, h2, h3, h5, h4⟩ := h
  simp only [List.cons.injEq, Value.slice.injEq, and_true, true_and] at hv
  obtain ⟨rfl, rfl⟩ := hv
  refine ⟨a, cap, rfl, h1, h2, h3, h5, fun hl => ?_⟩
  obtain ⟨b, off, rfl, hc⟩ := h4 hl
  refine ⟨b, off, rfl, fun i hi => ?_⟩
  obtain ⟨c, hcl, hcc, hE⟩ := hc i hi
  refine ⟨c, hcl, fun j hj => ?_, hE⟩
  have hx := hcc j hj
  obtain ⟨u, hu⟩ : ∃ u, c[j]? = some u := ⟨c[j], List.getElem?_eq_getElem (by omega)⟩
  rw [hu] at hx ⊢
  exact hg.cell hx (fun e => hne _ hl rfl e.symm)
theorem bytesC_lt {w : World} {a : Option Addr} {cap : Nat} {l : List UInt8} (h : SliceC maxLen 1 ByteC w [.slice a l.length cap] l) (p : Addr) (hl : 0 < l.length) (hp : a = some p) : p.block < w.heap.size := by
  obtain ⟨a', cap', hv, h1, h2, h3, h5, h4⟩ := h
  simp only [List.cons.injEq, Value.slice.injEq, and_true, true_and] at hv
  obtain ⟨rfl, rfl⟩ := hv
  obtain ⟨b, off, he, hc⟩ := h4 hl
  obtain ⟨c, hcl, hcc, hE⟩ := hc 0 hl
  have hx := hcc 0 (by omega)
  rw [List.getElem?_eq_getElem (by omega)] at hx
  rw [hp] at he
  cases he
  exact World.block_lt_of_cell? w ⟨b, _, none⟩ hx
theorem Nod.Ok.grown {w w' : World} {x : Nod} {row : Option Nat} (h : x.Ok maxLen w) (hg : w.grownBy w' row) (hne : ∀ p, 0 < x.data.length → x.da = some p → row ≠ some p.block) : x.Ok maxLen w' :=
  ⟨h.path, h.kind, h.same, h.target, h.mt, bytesC_grown h.data hg hne⟩
theorem Nod.Ok.lt {w : World} {x : Nod} (h : x.Ok maxLen w) (p : Addr) (hl : 0 < x.data.length) (hp : x.da = some p) : p.block < w.heap.size := bytesC_lt h.data p hl hp
section
variable {t : TypeId} {w w' : World} {B : Nat} {v v' : Value} {l m : List Nod}
theorem NodIn.below {x : Nod} (h : NodIn w v x) (hb : Below w.heap.size w w') : NodIn w' v x := ⟨h.1.below hb, h.2⟩
theorem OwnNods.nil (t : TypeId) (w : World) (B : Nat) : OwnNods t w B (.slice none 0 0) [] := ⟨World.ownsRow_nil w B t 12, fun x hx => absurd hx (by simp)⟩
theorem OwnNods.below (h : OwnNods t w B v l) (hb : Below w.heap.size w w') : OwnNods t w' B v l := ⟨ownsRow_below h.1 hb, fun x hx => (h.2 x hx).below hb⟩
theorem OwnNods.mono {B' : Nat} (h : OwnNods t w B v l) (hb : B' ≤ B) : OwnNods t w B' v l := by
  refine ⟨⟨h.1.1, ?_⟩, h.2⟩
  rcases h.1.2 with ⟨rfl, h0⟩ | ⟨g, cap, cur, rfl, hbg, r⟩
  · exact .inl ⟨rfl, h0⟩
  · exact .inr ⟨g, cap, cur, rfl, Nat.le_trans hb hbg, r⟩
theorem OwnNods.slice (h : OwnNods t w B v l) (hl : l.length ≤ maxLen) : SliceC maxLen 12 (NodC maxLen) w [v] l := by
  rcases h.1.2 with ⟨rfl, h0⟩ | ⟨g, cap, cur, rfl, hbg, hg, hnc, hcm, hcs, htake⟩
  · obtain rfl := List.eq_nil_of_length_eq_zero h0
    exact ⟨none, 0, rfl, by simp, by simp, by simp, fun _ => rfl, fun h => absurd h (by simp)⟩
  · refine ⟨some ⟨g, 0, none⟩, cap, rfl, hnc, hcm, hl, (fun h => by cases h), fun _ => ⟨g, 0, rfl, fun i hi => ⟨(l[i]).cells, rfl, fun j hj => ?_, rfl, (h.2 _ (List.getElem_mem hi)).1⟩⟩⟩
    rw [Nat.zero_add, h.1.cellAt _ (by omega), flat_at l i j hi hj, nk_eq hi]
theorem OwnNods.form (h : OwnNods t w B v l) : (v = .slice none 0 0 ∧ l = []) ∨ ∃ g cap, v = .slice (some ⟨g, 0, none⟩) l.length cap ∧ B ≤ g ∧ g < w.heap.size ∧ l.length ≤ cap ∧ cap ≤ maxLen := by
  rcases h.1.2 with ⟨rfl, h0⟩ | ⟨g, cap, cur, rfl, hbg, hg, hnc, hcm, hcs, htake⟩
  · exact .inl ⟨rfl, List.eq_nil_of_length_eq_zero h0⟩
  · exact .inr ⟨g, cap, rfl, hbg, (Array.getElem?_eq_some_iff.1 hg).1, hnc, hcm⟩
theorem OwnNods.nodAt {g cap : Nat} (h : OwnNods t w B (.slice (some ⟨g, 0, none⟩) l.length cap) l) {k : Nat} (hk : k < l.length) : NodAt w g (k * 12) (nk l k) := by
  have c := fun j hj => (h.1.cellAt (k * 12 + j) (by omega)).trans (flat_at l k j hk hj)
  exact ⟨c 0 (by omega), c 1 (by omega), c 2 (by omega), c 3 (by omega), c 4 (by omega), c 5 (by omega), c 6 (by omega), c 7 (by omega), c 8 (by omega), c 9 (by omega), c 10 (by omega), c 11 (by omega)⟩
theorem OwnNods.nodIn (h : OwnNods t w B v l) {k : Nat} (hk : k < l.length) : NodIn w v (nk l k) := by
  rw [nk_eq hk]
  exact h.2 _ (List.getElem_mem hk)
theorem OwnNods.app (h : OwnNods t w B v l) (hm : ∀ x, x ∈ m → NodIn w v x) (ho : w'.ownsRow B t 12 v' (l.length + m.length) (l.flatMap Nod.cells ++ m.flatMap Nod.cells)) (hg : w.grownBy w' v.ownBlock)
    (hv : v'.ownBlock = v.ownBlock ∨ ∃ b, v'.ownBlock = some b ∧ w.heap.size ≤ b) : OwnNods t w' B v' (l ++ m) := by
  refine ⟨by rw [List.length_append, List.flatMap_append]; exact ho, fun x hx => ?_⟩
  have hin : NodIn w v x := by
    rcases List.mem_append.1 hx with a | a
    · exact h.2 x a
    · exact hm x a
  refine ⟨hin.1.grown hg hin.2, fun a hp ha => ?_⟩
  rcases hv with e | ⟨b, e, hb⟩
  · rw [e]; exact hin.2 a hp ha
  · rw [e]
    intro e2
    have h3 := hin.1.lt a hp ha
    simp only [Option.some.injEq] at e2
    omega
theorem OwnNods.put {g cap k j : Nat} (h : OwnNods t w B (.slice (some ⟨g, 0, none⟩) l.length cap) l) (hk : k < l.length) (hj : j < 12) (y : Nod) (u : Value) (hy : y.cells = (nk l k).cells.set j u)
    (hin : NodIn w (.slice (some ⟨g, 0, none⟩) l.length cap) y) : OwnNods t (w.setCell ⟨g, k * 12 + j, none⟩ u) B (.slice (some ⟨g, 0, none⟩) l.length cap) (l.set k y) ∧ w.grownBy (w.setCell ⟨g, k * 12 + j, none⟩ u) (some g) := by
  obtain ⟨h1, h2⟩ := h.1.stored (k * 12 + j) u
  refine ⟨⟨?_, fun x hx => ?_⟩, h2⟩
  · rw [flat_set l k j y u hk hj hy] at h1
    rw [List.length_set]
    exact h1
  · have hin' : NodIn w (.slice (some ⟨g, 0, none⟩) l.length cap) x := by
      rcases List.mem_or_eq_of_mem_set hx with a | a
      · exact h.2 x a
      · rw [a]; exact hin
    exact ⟨hin'.1.grown h2 hin'.2, hin'.2⟩
end
theorem src_nod {P : Program} (w : World) (tx e' e : TypeId) (hk : P.underlying tx = some (.slice e')) (x : Nod) : Src P 12 tx (.slice (some ⟨w.heap.size, 0, none⟩) 1 1) 1 ([x].flatMap Nod.cells) (w.alloc (.cells #[.string x.path, .int .i64 x.kind, .int .i64 x.same, .string x.target, .int .i64 x.mt.mode, .int .i64 x.mt.uid, .int .i64 x.mt.gid, .string x.mt.user, .string x.mt.group, .int .i64 x.mt.second, .int .i64 x.mt.nano, .slice x.da x.data.length x.dcap] e)) := by
  refine Src.ofSlice _ hk ⟨w.heap.size, 0, none⟩ 1 1 _ rfl (fun j u hu => ?_) (fun u hu => ?_)
  · have hj : j < 12 := by
      rcases Nat.lt_or_ge j 12 with h | h
      · exact h
      · rw [List.getElem?_eq_none (by simpa [Nod.cells] using h)] at hu; cases hu
    have e : (⟨w.heap.size, 0, none⟩ : Addr).add j = ⟨w.heap.size, j, none⟩ := by unfold Addr.add; split <;> simp_all
    rw [e, World.cell?_alloc_new]
    simpa [Nod.cells] using hu
  · simp [Nod.cells] at hu
    rcases hu with rfl | rfl | rfl | rfl | rfl | rfl | rfl | rfl | rfl | rfl | rfl | rfl <;> rfl
def RetT (t : TypeId) (w : World) (l : List Nod) (e : Ending) (w' : World) : Prop := ∃ v l', e = .returned v ∧ OwnNods t w' w.heap.size v l' ∧ l'.map Nod.bare = l.map Nod.bare ∧ Below w.heap.size w w'
open Go.RowKit
open Classical in
noncomputable def likeB (x y : Nod) : Bool := decide (x.mt = y.mt ∧ x.data = y.data)
open Go.RowKit
open Classical in
noncomputable def stepF (l : List Nod) (i : Nat) : Int :=
  if ¬ nodFault (nk l i) = 0 then nodFault (nk l i)
  else if 0 < i ∧ ¬ ordP (pathParts (nk l (i - 1)).path) (pathParts (nk l i).path) = -1 then 6
  else if (pathUp (nk l i).path).size ≠ 0 ∧ ¬ (treeFind (l.take i) (pathUp (nk l i).path) < i ∧ (nk l (treeFind (l.take i) (pathUp (nk l i).path))).kind = 2) then 10
  else if (nk l i).same ≠ 0 ∧ ∃ k, k < i ∧ (nk l k).same = (nk l i).same ∧ likeB (nk l k) (nk l i) = false then 11
  else 0
open Classical in
noncomputable def treeFault (l : List Nod) : Int :=
  if 40 < l.length then 1 else if h : ∃ k, k < l.length ∧ stepF l k ≠ 0 ∧ ∀ j, j < k → stepF l j = 0 then stepF l (Classical.choose h) else 0
theorem treeFault_many {l : List Nod} (h : 40 < l.length) : treeFault l = 1 := by unfold treeFault; rw [if_pos h]
theorem treeFault_at {l : List Nod} {k : Nat} {e : Int} (hl : l.length ≤ 40) (hk : k < l.length) (hz : ∀ j, j < k → stepF l j = 0) (he : stepF l k = e) (hne : e ≠ 0) : treeFault l = e := by
  have hex : ∃ k, k < l.length ∧ stepF l k ≠ 0 ∧ ∀ j, j < k → stepF l j = 0 := ⟨k, hk, by rw [he]; exact hne, hz⟩
  unfold treeFault
  rw [if_neg (by omega), dif_pos hex]
  obtain ⟨h1, h2, h3⟩ := Classical.choose_spec hex
  have : Classical.choose hex = k := by
    rcases Nat.lt_trichotomy (Classical.choose hex) k with h | h | h
    · exact absurd (hz _ h) h2
    · exact h
    · exact absurd (h3 _ h) (by rw [he]; exact hne)
  rw [this, he]
theorem stepF_nod {l : List Nod} {i : Nat} (h : ¬ nodFault (nk l i) = 0) : stepF l i = nodFault (nk l i) := by unfold stepF; rw [if_pos h]
theorem stepF_ord {l : List Nod} {i : Nat} (h : nodFault (nk l i) = 0) (h1 : 0 < i) (h2 : ¬ ordP (pathParts (nk l (i - 1)).path) (pathParts (nk l i).path) = -1) : stepF l i = 6 := by
  unfold stepF; rw [if_neg (by simpa using h), if_pos ⟨h1, h2⟩]
def OrdOk (l : List Nod) (i : Nat) : Prop := 0 < i → ordP (pathParts (nk l (i - 1)).path) (pathParts (nk l i).path) = -1
theorem stepF_up {l : List Nod} {i : Nat} (h : nodFault (nk l i) = 0) (h1 : OrdOk l i) (h2 : (pathUp (nk l i).path).size ≠ 0) (h3 : ¬ (treeFind (l.take i) (pathUp (nk l i).path) < i ∧ (nk l (treeFind (l.take i) (pathUp (nk l i).path))).kind = 2)) : stepF l i = 10 := by
  unfold stepF; rw [if_neg (by simpa using h), if_neg (fun e => e.2 (h1 e.1)), if_pos ⟨h2, h3⟩]
def UpOk (l : List Nod) (i : Nat) : Prop := (pathUp (nk l i).path).size ≠ 0 → treeFind (l.take i) (pathUp (nk l i).path) < i ∧ (nk l (treeFind (l.take i) (pathUp (nk l i).path))).kind = 2
theorem stepF_zero {l : List Nod} {i : Nat} (h : stepF l i = 0) : nodFault (nk l i) = 0 ∧ ((nk l i).same ≠ 0 → ∀ k, k < i → (nk l k).same = (nk l i).same → likeB (nk l k) (nk l i) = true) := by
  have h0 : nodFault (nk l i) = 0 := Classical.byContradiction fun e => e ((stepF_nod e).symm.trans h)
  refine ⟨h0, fun hs k hk he => ?_⟩
  cases hl : likeB (nk l k) (nk l i) with
  | true => rfl
  | false =>
    exfalso
    unfold stepF at h
    rw [if_neg (by simpa using h0)] at h
    split at h
    · cases h
    · split at h
      · cases h
      · rw [if_pos ⟨hs, k, hk, he, hl⟩] at h
        cases h
noncomputable def fstAt (l : List Nod) (i : Nat) (s : Int) : Option Nat := (List.range i).find? fun j => decide ((nk l j).same = s)
theorem fstAt_succ (l : List Nod) (i : Nat) (s : Int) : fstAt l (i + 1) s = (fstAt l i s).or (if (nk l i).same = s then some i else none) := by
  unfold fstAt
  rw [List.range_succ, List.find?_append]
  by_cases h : (nk l i).same = s
  · simp [h]
  · simp [h]
theorem ordP_rangeT (X Y : List ByteArray) : ordP X Y = -1 ∨ ordP X Y = 0 ∨ ordP X Y = 1 := by
  induction X generalizing Y with
  | nil => cases Y <;> simp [ordP]
  | cons x X ih =>
    cases Y with
    | nil => simp [ordP]
    | cons y Y =>
      unfold ordP
      split
      · exact ih Y
      · rcases cmpS_cases x y with ⟨_, h⟩ | ⟨_, _, h⟩ | ⟨_, _, h⟩ <;> simp [h]
open Go.RowKit
theorem nodAt_box (w : World) (x : Nod) (t : TypeId) : NodAt (w.alloc (.cells #[.string x.path, .int .i64 x.kind, .int .i64 x.same, .string x.target, .int .i64 x.mt.mode, .int .i64 x.mt.uid, .int .i64 x.mt.gid, .string x.mt.user, .string x.mt.group, .int .i64 x.mt.second, .int .i64 x.mt.nano, .slice x.da x.data.length x.dcap] t)) w.heap.size 0 x := by
  refine ⟨?_, ?_, ?_, ?_, ?_, ?_, ?_, ?_, ?_, ?_, ?_, ?_⟩ <;> simp [World.cell?_alloc_new]
theorem NodAt.zero {w : World} {b : Nat} {x : Nod} (h : NodAt w b 0 x) : w.cell? ⟨b, 0, none⟩ = some (.string x.path) ∧ w.cell? ⟨b, 1, none⟩ = some (.int .i64 x.kind) ∧ w.cell? ⟨b, 2, none⟩ = some (.int .i64 x.same) ∧ w.cell? ⟨b, 3, none⟩ = some (.string x.target) ∧ w.cell? ⟨b, 4, none⟩ = some (.int .i64 x.mt.mode) ∧ w.cell? ⟨b, 5, none⟩ = some (.int .i64 x.mt.uid) ∧ w.cell? ⟨b, 6, none⟩ = some (.int .i64 x.mt.gid) ∧ w.cell? ⟨b, 7, none⟩ = some (.string x.mt.user) ∧ w.cell? ⟨b, 8, none⟩ = some (.string x.mt.group) ∧ w.cell? ⟨b, 9, none⟩ = some (.int .i64 x.mt.second) ∧ w.cell? ⟨b, 10, none⟩ = some (.int .i64 x.mt.nano) ∧ w.cell? ⟨b, 11, none⟩ = some (.slice x.da x.data.length x.dcap) := h
end Go.Creel
namespace Go.Proofs.YtaffgndickdbiaaDoor
open Go.Creel Go.RowKit
set_option maxRecDepth 100000 in
theorem Compare_any (a b : ByteArray) (w : World) (hM : MaxOk w) (ha : a.size ≤ 1048576) (hb : b.size ≤ 1048576) :
    Calls Tryd.prog 31 #[.string a, .string b] w fun e w' => e = .returned (.int .i64 (ordP (pathParts a) (pathParts b))) ∧ Below w.heap.size w w' := by
  have HX := Lib.hid (parts_len' ha)
  have HY := Lib.hid (parts_len' hb)
  have HM := Lib.hid hM
  clear hM
  go_enter Tryd.func31, Tryd.ntmps31
  go_wp2_with fail
  refine (Parts_any _ _ HM.out (by omega)).mono ?_
  rintro e w1 ⟨v1, rfl, ho, hb1⟩
  have HB1 := Lib.hid hb1
  have HO1 := Lib.hid ho
  clear hb1 ho
  go_wp2_with fail
  refine (Parts_any _ _ (HM.out.below HB1.out) (by omega)).mono ?_
  rintro e w2 ⟨v2, rfl, ho, hb2⟩
  have HB2 := Lib.hid (HB1.out.trans (hb2.mono HB1.out.size))
  have HO2 := Lib.hid (HO1.out.below hb2)
  have HP2 := Lib.hid ho
  clear hb2 ho
  go_wp2_with fail
  refine (cmpTexts_any _ _ _ _ _ _ _ HX.out HY.out HO2.out HP2.out).mono ?_
  rintro e w3 ⟨rfl, hb3⟩
  have HB3 := Lib.hid (HB2.out.trans (hb3.mono HB2.out.size))
  clear hb3
  go_wp2
  go_ret
  exact ⟨rfl, HB3.out⟩
end Go.Proofs.YtaffgndickdbiaaDoor
namespace Go.Creel
open Go.RowKit
structure KeyOn {κ : Type} [DecidableEq κ] (kind : TypeDesc) (mk : κ → Value) : Prop where
  same : ∀ a b, Instr.sameNow kind (mk a) (mk b) = some (decide (a = b))
  bits : ∀ a, Instr.sameBits 10000 (mk a) (mk a) = true
  check : ∀ {P : Program} {t : TypeId} (w : World) (a : κ), P.underlying t = some kind → (Instr.checkKey false 10000 t (mk a)).run P w = .ok () w
  checkE : ∀ {P : Program} {t : TypeId} (w : World) (a : κ), P.underlying t = some kind → (Instr.checkKey true 10000 t (mk a)).run P w = .ok () w
section
variable {κ : Type} [DecidableEq κ]
def assoc (k : κ) : List (κ × Value) → Option Value
  | [] => none
  | p :: r => if k = p.1 then some p.2 else assoc k r
def assocPut (k : κ) (v : Value) : List (κ × Value) → List (κ × Value)
  | [] => [(k, v)]
  | p :: r => if k = p.1 then (k, v) :: r else p :: assocPut k v r
theorem assoc_put (k k' : κ) (v : Value) : ∀ l, assoc k' (assocPut k v l) = if k' = k then some v else assoc k' l
  | [] => by simp [assocPut, assoc]
  | p :: r => by
    have ih := assoc_put k k' v r
    unfold assocPut
    by_cases h : k = p.1
    · rw [if_pos h]
      unfold assoc
      by_cases h2 : k' = k
      · simp [h2]
      · rw [if_neg h2, if_neg h2, if_neg (by rw [← h]; exact h2)]
    · rw [if_neg h]
      unfold assoc
      by_cases h2 : k' = p.1
      · rw [if_pos h2, if_pos h2, if_neg (by rw [h2]; exact fun e => h e.symm)]
      · rw [if_neg h2, if_neg h2, ih]
def MapIs (mk : κ → Value) (w : World) (b : Nat) (l : List (κ × Value)) : Prop :=
  ∃ es clock, w.heap[b]? = some (.map es clock) ∧ es.toList.map (fun e => (e.key, e.val)) = l.map (fun p => (mk p.1, p.2))
theorem MapIs.lt {mk : κ → Value} {w : World} {b : Nat} {l : List (κ × Value)} (h : MapIs mk w b l) : b < w.heap.size := by
  obtain ⟨es, clock, hb, _⟩ := h
  exact (Array.getElem?_eq_some_iff.1 hb).1
theorem MapIs.below {mk : κ → Value} {w w' : World} {b : Nat} {l : List (κ × Value)} {B : Nat} (h : MapIs mk w b l) (hb : Below B w w') (hB : b < B) : MapIs mk w' b l := by
  obtain ⟨es, clock, h1, h2⟩ := h
  exact ⟨es, clock, (hb.block b hB).trans h1, h2⟩
theorem findNow_spec {kind : TypeDesc} {mk : κ → Value} (K : KeyOn kind mk) (k : κ) (u : Value) : ∀ (es : List MapEntry) (l : List (κ × Value)) (i : Nat), es.map (fun e => (e.key, e.val)) = l.map (fun p => (mk p.1, p.2)) →
    (assoc k l = none ∧ Instr.findNow kind (mk k) es i = some none ∧ assocPut k u l = l ++ [(k, u)]) ∨
    ∃ j v e, assoc k l = some v ∧ Instr.findNow kind (mk k) es i = some (some (i + j, v)) ∧ es[j]? = some e ∧ e.key = mk k ∧ (es.modify j (fun e => { e with key := mk k, val := u })).map (fun e => (e.key, e.val)) = (assocPut k u l).map (fun p => (mk p.1, p.2))
  | [], [], _, _ => .inl ⟨rfl, rfl, rfl⟩
  | [], p :: l, _, h => by simp at h
  | e :: es, [], _, h => by simp at h
  | e :: es, p :: l, i, h => by
    simp only [List.map_cons, List.cons.injEq, Prod.mk.injEq] at h
    obtain ⟨⟨hk, hv⟩, hr⟩ := h
    have hs := K.same k p.1
    by_cases hkp : k = p.1
    · right
      refine ⟨0, p.2, e, by simp [assoc, hkp], ?_, rfl, by rw [hk, hkp], ?_⟩
      · unfold Instr.findNow
        rw [hk, hs, hkp]
        simp [hv]
      · simp [assocPut, hkp, hr]
    · have hf : Instr.findNow kind (mk k) (e :: es) i = Instr.findNow kind (mk k) es (i + 1) := by
        conv => lhs; unfold Instr.findNow
        rw [hk, hs]
        simp [hkp]
      rcases findNow_spec K k u es l (i + 1) hr with ⟨h1, h2, h3⟩ | ⟨j, v, e', h1, h2, h3, h4, h5⟩
      · left
        exact ⟨by simp [assoc, hkp, h1], by rw [hf, h2], by simp [assocPut, hkp, h3]⟩
      · right
        refine ⟨j + 1, v, e', by simp [assoc, hkp, h1], by rw [hf, h2]; congr 3; omega, by simpa using h3, h4, ?_⟩
        simp [assocPut, hkp, h5, hk, hv]
variable {P : Program} {w : World} {mk : κ → Value} {kind : TypeDesc} {b : Nat} {l : List (κ × Value)}
theorem MapIs.checked (K : KeyOn kind mk) {k : TypeId} (hk : P.underlying k = some kind) (c : Bool) (a : κ) : (Instr.checkKey c 10000 k (mk a)).run P w = .ok () w := by
  cases c
  · exact K.check w a hk
  · exact K.checkE w a hk
theorem MapIs.put (h : MapIs mk w b l) (K : KeyOn kind mk) {t k e : TypeId} (ht : P.underlying t = some (.map k e)) (hk : P.underlying k = some kind) (a : κ) (u : Value) :
    ∃ w', (Instr.mapUpdate t (.map (some b)) (mk a) u).run P w = .ok () w' ∧ MapIs mk w' b (assocPut a u l) ∧ w.grownBy w' (some b) := by
  obtain ⟨es, clock, hb, hes⟩ := h
  have hlt : b < w.heap.size := (Array.getElem?_eq_some_iff.1 hb).1
  rcases findNow_spec K a u es.toList l 0 hes with ⟨h1, h2, h3⟩ | ⟨j, v', e', h1, h2, h3, h4, h5⟩
  · refine ⟨_, by
      unfold Instr.mapUpdate Instr.findKey
      simp only [Sem.run_bind, run_underlying ht, Result.andThen_ok, MapKept.run_getObj_map hb, MapIs.checked K hk, run_underlying hk, h2, Sem.run_pure]
      exact MapKept.run_setObj_map _ hb, ?_, ?_⟩
    · refine ⟨_, _, by simp [hlt]; exact ⟨rfl, rfl⟩, ?_⟩
      rw [h3]
      simp [hes]
    · exact ⟨rfl, rfl, rfl, by simp, fun i _ hi => by
        simp only [Array.getElem?_setIfInBounds]
        rw [if_neg (fun e => hi (by rw [e]))]⟩
  · have hej : es[j]? = some e' := by simpa using h3
    refine ⟨_, by
      unfold Instr.mapUpdate Instr.findKey Instr.keyThatStays
      simp only [Sem.run_bind, run_underlying ht, Result.andThen_ok, MapKept.run_getObj_map hb, MapIs.checked K hk, run_underlying hk, h2, Sem.run_pure, Nat.zero_add, hej, Option.map_some, Option.getD_some, h4, K.bits, if_true]
      exact MapKept.run_setObj_map _ hb, ?_, ?_⟩
    · refine ⟨_, _, by simp [hlt]; exact ⟨rfl, rfl⟩, ?_⟩
      rw [← h5]
      simp [Array.toList_modify]
    · exact ⟨rfl, rfl, rfl, by simp, fun i _ hi => by
        simp only [Array.getElem?_setIfInBounds]
        rw [if_neg (fun e => hi (by rw [e]))]⟩
end
open Go.RowKit
def FstIs (l : List Nod) (k : Nat) (m : List (Int × Value)) : Prop := ∀ s, s ≠ 0 → assoc s m = (fstAt l k s).map fun j => (nk l j).val
theorem FstIs.start (l : List Nod) : FstIs l 0 [] := fun s _ => rfl
theorem FstIs.put {l : List Nod} {k : Nat} {m : List (Int × Value)} (h : FstIs l k m) (h0 : (nk l k).same ≠ 0) (hj : fstAt l k (nk l k).same = none) : FstIs l (k + 1) (assocPut (nk l k).same (nk l k).val m) := by
  intro s hs
  rw [assoc_put, fstAt_succ]
  by_cases e : s = (nk l k).same
  · rw [if_pos e, e, hj, if_pos rfl]; rfl
  · rw [if_neg e, if_neg (fun h => e h.symm), Option.or_none, h s hs]
end Go.Creel
namespace Go.Proofs.YtaffgndickdbiaaDoor
open Go.Creel Go.RowKit
theorem nods_below {N : Nat} {w w' : World} {v : Value} {l : List Nod} (h : SliceC N 12 (NodC N) w [v] l) (hb : Below w.heap.size w w') : SliceC N 12 (NodC N) w' [v] l :=
  h.below (fun _ _ ⟨h1, h2⟩ => ⟨h1, h2.below hb⟩) hb
open Go.Creel Go.RowKit
abbrev boxOf (x : Nod) : Obj := .cells #[.string x.path, .int .i64 x.kind, .int .i64 x.same, .string x.target, .int .i64 x.mt.mode, .int .i64 x.mt.uid, .int .i64 x.mt.gid, .string x.mt.user, .string x.mt.group, .int .i64 x.mt.second, .int .i64 x.mt.nano, .slice x.da x.data.length x.dcap] 60
end Go.Proofs.YtaffgndickdbiaaDoor
namespace Go.Creel
theorem bare_parts {x y : Nod} (h : x.bare = y.bare) : x.path = y.path ∧ x.kind = y.kind ∧ x.same = y.same ∧ x.target = y.target ∧ x.mt = y.mt ∧ x.data = y.data := by
  unfold Nod.bare at h
  simp only [Nod.mk.injEq, and_true, true_and] at h
  exact h
theorem bare_nk {l m : List Nod} (h : l.map Nod.bare = m.map Nod.bare) {k : Nat} (hk : k < l.length) : (nk l k).bare = (nk m k).bare := by
  have hl : l.length = m.length := by simpa using congrArg List.length h
  have h2 : (l.map Nod.bare)[k]? = (m.map Nod.bare)[k]? := by rw [h]
  rw [List.getElem?_map, List.getElem?_map, List.getElem?_eq_getElem hk, List.getElem?_eq_getElem (by omega)] at h2
  rw [nk_eq hk, nk_eq (by omega)]
  simpa using h2
theorem bare_len {l m : List Nod} (h : l.map Nod.bare = m.map Nod.bare) : l.length = m.length := by simpa using congrArg List.length h
end Go.Creel
namespace Go.Proofs.YtaffgndickdbiaaDoor
open Go.Creel Go.RowKit
set_option maxRecDepth 100000 in
set_option maxHeartbeats 1000000 in
theorem SameNode_eq (x y : Nod) (w : World) (hxy : x.bare = y.bare) (hx : x.Ok maxLen w) (hy : y.Ok maxLen w) :
    Calls Tryd.prog 39 #[x.val, y.val] w fun e w' => e = .returned (.bool true) ∧ Below w.heap.size w w' := by
  obtain ⟨p, k, s, t, m, da, dc, d⟩ := x
  obtain ⟨p', k', s', t', m', da', dc', d'⟩ := y
  obtain ⟨h1, h2, h3, h4, h5, h6⟩ := bare_parts hxy
  simp only at h1 h2 h3 h4 h5 h6
  subst h1 h2 h3 h4 h5 h6
  have HB := Lib.hid fun o1 o2 : Obj => ((Below.refl w.heap.size w).alloc (Nat.le_refl _) o1).alloc (by simp) o2
  have HS := Lib.hid (fun o1 o2 : Obj => sameBytes_eq (N := maxLen) (M := maxLen) (.slice da d.length dc) (.slice da' d.length dc') d ((w.alloc o1).alloc o2) (hx.data.below (fun _ _ h => h) (HB.out o1 o2)) (hy.data.below (fun _ _ h => h) (HB.out o1 o2)))
  obtain ⟨mo, ui, gi, us, gr, se, na⟩ := m
  have q1 : (p.toList == p.toList) = true := by simp
  have q2 : (k == k) = true := by simp
  have q3 : (s == s) = true := by simp
  have q4 : (t.toList == t.toList) = true := by simp
  have q5 : (mo == mo) = true := by simp
  have q6 : (ui == ui) = true := by simp
  have q7 : (gi == gi) = true := by simp
  have q8 : (us.toList == us.toList) = true := by simp
  have q9 : (gr.toList == gr.toList) = true := by simp
  have q10 : (se == se) = true := by simp
  have q11 : (na == na) = true := by simp
  clear hx hy hxy
  go_enter Tryd.func39, Tryd.ntmps39
  go_wp2_with fail
  refine (HS.out _ _).mono ?_
  rintro e w1 ⟨rfl, rfl⟩
  go_wp2
  go_ret
  exact ⟨rfl, HB.out _ _⟩
set_option maxRecDepth 100000 in
set_option maxHeartbeats 1000000 in
theorem EqualNods_at (b off cap b2 off2 cap2 : Nat) (l m : List Nod) (w : World) (hpos : 0 < l.length) (hlm : l.map Nod.bare = m.map Nod.bare) (hle : l.length ≤ cap) (hm : cap ≤ maxLen) (hle2 : m.length ≤ cap2) (hm2 : cap2 ≤ maxLen) (hc : NodsAt w b off l) (hc2 : NodsAt w b2 off2 m)
    (hk : ∀ i, i < l.length → (nk l i).Ok maxLen w) (hk2 : ∀ i, i < m.length → (nk m i).Ok maxLen w) :
    Calls Tryd.prog 41 #[.slice (some ⟨b, off, none⟩) l.length cap, .slice (some ⟨b2, off2, none⟩) m.length cap2, .func (.func 39) #[] #[]] w fun e w' => e = .returned (.bool true) ∧ Below w.heap.size w w' := by
  have hl := bare_len hlm
  unfold maxLen at hm hm2
  have HC := Lib.hid hc
  have HC2 := Lib.hid (fun i (hi : i < l.length) => hc2 i (by omega))
  have HK := Lib.hid hk
  have HK2 := Lib.hid (fun i (hi : i < l.length) => hk2 i (by omega))
  have HLM := Lib.hid (fun k (hk : k < l.length) => bare_nk hlm hk)
  clear hc hc2 hk hk2 hlm
  rw [← hl] at hle2 ⊢
  clear hl
  generalize hn : l.length = n at *
  go_enter Tryd.func41, Tryd.ntmps41
  go_wp2
  go_loopw [7, 8, 9, 17] (fun _ _ _ i wr => ∃ k : Nat, k ≤ n ∧ i = .int .i64 k ∧ Hid (Below w.heap.size w wr)) (fun _ _ _ i _ => n - (intOf i).toNat)
  case atStart => exact ⟨0, by omega, rfl, Lib.hid (Below.refl _ _)⟩
  case round =>
    obtain ⟨k, hk, rfl, HB⟩ := hrel
    by_cases hlt : k < n
    · obtain ⟨h0, h1, h2, h3, h4, h5, h6, h7, h8, h9, h10, h11⟩ := (HC.out.below HB.out) k (by omega)
      obtain ⟨g0, g1, g2, g3, g4, g5, g6, g7, g8, g9, g10, g11⟩ := ((HC2.out k hlt).below HB.out).below ((Below.refl wr.heap.size wr).alloc (Nat.le_refl _) (boxOf (nk l k)))
      have HS := Lib.hid (fun (w3 : World) (hb : Below wr.heap.size wr w3) => SameNode_eq (nk l k) (nk m k) w3 (HLM.out k hlt) (((HK.out k hlt).below HB.out).below hb) (((HK2.out k hlt).below HB.out).below hb))
      generalize nk l k = x at *
      generalize nk m k = y at *
      go_wp2_with (go_at_call 39; have hbb := ((Below.refl wr.heap.size wr).alloc (Nat.le_refl _) (boxOf x)).alloc (by simp) (boxOf y); refine (HS.out _ hbb).mono ?_; rintro e w' ⟨rfl, hb2⟩; have HB2 := Lib.hid (HB.out.trans ((hbb.trans (hb2.mono hbb.size)).mono HB.out.size)); clear hb2 hbb)
      go_roundw
      case rel => exact ⟨k + 1, by omega, by go_num, HB2⟩
      case measure => simp [intOf]; omega
    · obtain rfl : k = n := by omega
      go_wp2
      go_ret
      exact ⟨rfl, HB.out⟩
set_option maxRecDepth 100000 in
theorem EqualNods_nil (a a2 : Option Addr) (cap cap2 : Nat) (f : Value) (w : World) :
    Calls Tryd.prog 41 #[.slice a 0 cap, .slice a2 0 cap2, f] w fun e w' => e = .returned (.bool true) ∧ w = w' := by
  go_enter Tryd.func41, Tryd.ntmps41
  go_wp2
  go_loop [7, 8, 9, 17] (fun _ _ _ i => i = .int .i64 0) (fun _ _ _ i => 0)
  case atStart => rfl
  case round =>
    obtain rfl := hrel
    go_wp2
    go_ret
    exact ⟨rfl, rfl⟩
set_option maxRecDepth 100000 in
theorem SameTree_eq (v u : Value) (l m : List Nod) (w : World) (hlm : l.map Nod.bare = m.map Nod.bare) (hv : SliceC maxLen 12 (NodC maxLen) w [v] l) (hu : SliceC maxLen 12 (NodC maxLen) w [u] m) :
    Calls Tryd.prog 16 #[v, u] w fun e w' => e = .returned (.bool true) ∧ Below w.heap.size w w' := by
  have hl := bare_len hlm
  have HQ : Hid (Calls Tryd.prog 41 #[v, u, .func (.func 39) #[] #[]] w fun e w' => e = .returned (.bool true) ∧ Below w.heap.size w w') := Lib.hid (by
    rcases nods_cases hv with ⟨a, cap, rfl, rfl, _⟩ | ⟨b, off, cap, rfl, h1, h2, h3, h6, h4, h5⟩
    · rcases nods_cases hu with ⟨a2, cap2, rfl, rfl, _⟩ | ⟨b, off, cap, rfl, h1, h2, h3, h6, h4, h5⟩
      · refine (EqualNods_nil a a2 cap cap2 _ w).mono ?_
        rintro e w' ⟨rfl, rfl⟩
        exact ⟨rfl, Below.refl _ _⟩
      · simp at hl; omega
    · rcases nods_cases hu with ⟨a2, cap2, rfl, rfl, _⟩ | ⟨b2, off2, cap2, rfl, g1, g2, g3, g6, g4, g5⟩
      · simp at hl; simp [hl] at h1
      · exact EqualNods_at b off cap b2 off2 cap2 l m w h1 hlm h2 h3 g2 g3 h4 g4 h5 g5)
  clear hv hu hlm
  go_enter Tryd.func16, Tryd.ntmps16
  go_wp2_with fail
  refine HQ.out.mono ?_
  rintro e w1 ⟨rfl, hb⟩
  have HB := Lib.hid hb
  clear hb
  go_wp2
  go_ret
  exact ⟨rfl, HB.out⟩
end Go.Proofs.YtaffgndickdbiaaDoor
