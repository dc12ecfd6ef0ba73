/-
  Signs of a pattern as the reference reads them.
-/
import Derived.Test.YtecmcgedeaemgaaDoorGlobSet
import Derived.Test.YtecmcgedeaemgaaDoorAppend
import Derived.Deep.WholeRow
import Derived.Great.BuildSlice
namespace Go.Creel
set_option linter.unusedVariables false
set_option linter.unusedSimpArgs false
open Go.RowKit
/-- the cells of a sign: a star, and which bytes fit -/
def tokCells (st : Bool) (f : Nat → Bool) : List Value := .bool st :: (List.range 256).map fun c => .bool (f c)
def tokArr (st : Bool) (f : Nat → Bool) : Array Value := (tokCells st f).toArray
theorem tokArr_size (st : Bool) (f : Nat → Bool) : (tokArr st f).size = 257 := by simp [tokArr, tokCells]
theorem tokArr_at (st : Bool) (f : Nat → Bool) {c : Nat} (h : c < 256) : (tokArr st f)[1 + c]? = some (.bool (f c)) := by
  rw [Nat.add_comm]
  simp [tokArr, tokCells, List.getElem?_map, List.getElem?_range h]
/-- one byte's answer turned -/
def tokUpd (f : Nat → Bool) (c : Nat) (b : Bool) : Nat → Bool := fun x => if x = c then b else f x
theorem tokUpd_same (f : Nat → Bool) (c : Nat) (b : Bool) : tokUpd f c b c = b := if_pos rfl
theorem tokUpd_other (f : Nat → Bool) {c x : Nat} (b : Bool) (h : x ≠ c) : tokUpd f c b x = f x := if_neg h
theorem tokArr_set (st : Bool) (f : Nat → Bool) (c : Nat) (b : Bool) : (tokArr st f).setIfInBounds (1 + c) (.bool b) = tokArr st (tokUpd f c b) := by
  rw [Nat.add_comm]
  unfold tokUpd
  apply Array.ext'
  simp only [tokArr, Array.toList_setIfInBounds, tokCells, List.set_cons_succ]
  congr 1
  apply List.ext_getElem?
  intro j
  rw [List.getElem?_set]
  by_cases hj : j < 256
  · simp only [List.getElem?_map, List.getElem?_range hj, Option.map_some, List.length_map, List.length_range]
    by_cases e : c = j
    · subst e; simp [hj]
    · have e2 : ¬ j = c := fun h => e h.symm
      simp [e, e2]
  · have h1 : (List.range 256)[j]? = none := List.getElem?_eq_none (by simp; omega)
    simp only [List.getElem?_map, h1, Option.map_none, List.length_map, List.length_range]
    by_cases e : c = j
    · subst e; simp [hj]
    · simp [e]
def noFit : Nat → Bool := fun _ => false
theorem tokArr_star (a b : Bool) (f : Nat → Bool) : (tokArr a f).toList.set 0 (.bool b) = (tokArr b f).toList := rfl
theorem tokArr_congr {st : Bool} {f g : Nat → Bool} (h : ∀ c, c < 256 → f c = g c) : tokArr st f = tokArr st g := by
  unfold tokArr tokCells
  congr 2
  apply List.map_congr_left
  intro c hc
  rw [h c (List.mem_range.1 hc)]
theorem tokArr_one (st : Bool) (f : Nat → Bool) : (tokArr st f).all (·.oneCell') = true := by
  rw [Array.all_eq_true']
  intro x hx
  simp [tokArr, tokCells] at hx
  rcases hx with rfl | ⟨c, hc, rfl⟩ <;> rfl
def Tok.cells (x : Tok) : List Value := tokCells x.star x.fits
theorem tokCells_congr {st : Bool} {f g : Nat → Bool} (h : ∀ c, c < 256 → f c = g c) : tokCells st f = tokCells st g := by
  have := tokArr_congr (st := st) h
  unfold tokArr at this
  exact Array.toList_inj.2 this |> fun e => by simpa using e
/-- A row of signs of the call's own. -/
def OwnToks (t : TypeId) (w : World) (B : Nat) (v : Value) (l : List Tok) : Prop := w.ownsRow B t 257 v l.length (l.flatMap Tok.cells)
theorem OwnToks.nil (t : TypeId) (w : World) (B : Nat) : OwnToks t w B (.slice none 0 0) [] := World.ownsRow_nil w B t 257
theorem OwnToks.app {t : TypeId} {w : World} {B : Nat} {v : Value} {l : List Tok} {x : Tok} {f : Nat → Bool} (hf : ∀ c, c < 256 → f c = x.fits c) (h : w.ownsRow B t 257 v (l.length + 1) (l.flatMap Tok.cells ++ tokCells x.star f)) : OwnToks t w B v (l ++ [x]) := by
  unfold OwnToks
  rw [List.length_append, List.flatMap_append]
  rw [tokCells_congr hf] at h
  simpa [Tok.cells] using h
theorem src_tok {P : Program} (w : World) {b : Nat} (hb : w.heap.size = b) (tx e' e : TypeId) (hk : P.underlying tx = some (.slice e')) (st : Bool) (f : Nat → Bool) : Src P 257 tx (.slice (some ⟨b, 0, none⟩) 1 1) 1 (tokCells st f) (w.alloc (.cells (tokArr st f) e)) := by
  subst hb
  refine Src.ofSlice _ hk ⟨w.heap.size, 0, none⟩ 1 1 _ (by simp [tokCells]) (fun j u hu => ?_) (fun u hu => ?_)
  · have e : (⟨w.heap.size, 0, none⟩ : Addr).add j = ⟨w.heap.size, j, none⟩ := by unfold Addr.add; split <;> simp_all
    rw [e, World.cell?_alloc_new]
    simpa [tokArr] using hu
  · simp [tokCells] at hu
    rcases hu with rfl | ⟨c, hc, rfl⟩ <;> rfl
end Go.Creel
namespace Go.Proofs.YtecmcgedeaemgaaDoor
set_option linter.unusedVariables false
set_option linter.unusedSimpArgs false
open Go.Creel Go.RowKit
theorem tok_info : (Tryd.prog.info? 127).map (fun i => (i.zero, i.size, i.bytes)) = some (some (.agg (tokArr false noFit)), 257, 257) := by kernel_rfl
theorem tok_zero : (∀ w, (zeroValue 127).run Tryd.prog w = .ok (.agg (tokArr false noFit)) w) ∧ (Tryd.prog.info? 127).map (·.size) = some 257 := by
  obtain ⟨i, h0, h1, h2, h3⟩ := info_parts tok_info
  exact zero_of_info (by rw [h0]; simp [h1, h2])
theorem tok_build (b : Bool) (w : World) : (Instr.build 127 #[(0, .bool b)]).run Tryd.prog w = .ok (.agg (tokArr b noFit)) w := by
  apply run_build
  cases b <;> kernel_rfl
theorem tok_store (w : World) (a b : Bool) (f : Nat → Bool) : (storeCells ⟨w.heap.size, 0, none⟩ ((tokArr a f).toList.set 0 (.bool b)) 0).run Tryd.prog (w.alloc (.cells (tokArr a f) 127)) = .ok () (w.alloc (.cells (tokArr b f) 127)) := by
  rw [tokArr_star]
  exact run_storeCells_new w _ _ _ (by rw [tokArr_size]; exact tok_zero.2) (by rw [tokArr_size, tokArr_size]) (tokArr_one _ _)
theorem tok_load (w : World) (st : Bool) (f : Nat → Bool) : (loadCellsFrom ⟨w.heap.size, 0, none⟩ 0 257 #[]).run Tryd.prog (w.alloc (.cells (tokArr st f) 127)) = .ok (tokArr st f) (w.alloc (.cells (tokArr st f) 127)) :=
  run_loadCellsFrom_new w _ _ _ (tokArr_size _ _)
theorem tok_fill (st : Bool) (f : Nat → Bool) : Instr.fill (fun i => some (i * 257, 257)) ((Array.range (1 * 257)).map ((Value.agg (tokArr false noFit)).cells[· % (Value.agg (tokArr false noFit)).cells.size]!)) [(0, .agg (tokArr st f))] = some (tokArr st f) := by
  cases st <;> kernel_rfl
end Go.Proofs.YtecmcgedeaemgaaDoor
