/-
  An own slice of records.
-/
import Derived.Test.YtaffgndickdbiaaGreatDoorRecs
import Derived.Test.YtaffgndickdbiaaGreatDoorAppend
namespace Go.Creel
set_option linter.unusedVariables false
set_option linter.unusedSimpArgs false
open Go.RowKit
def Rec.cl (r : Rec) : List Value := [.string r.key, .string r.value]
theorem Rec.cl_len (r : Rec) : r.cl.length = 2 := rfl
theorem flatC_len : ∀ l : List Rec, (l.flatMap Rec.cl).length = l.length * 2
  | [] => rfl
  | x :: r => by rw [List.flatMap_cons, List.length_append, flatC_len r, Rec.cl_len, List.length_cons]; omega
theorem flatC_at : ∀ (l : List Rec) (k j : Nat), k < l.length → j < 2 → (l.flatMap Rec.cl)[k * 2 + j]? = (rk l k).cl[j]?
  | [], _, _, h, _ => absurd h (by simp)
  | x :: r, 0, j, _, hj => by
    rw [List.flatMap_cons, Nat.zero_mul, Nat.zero_add, List.getElem?_append_left (by rw [Rec.cl_len]; omega)]
    rfl
  | x :: r, k + 1, j, hk, hj => by
    rw [List.flatMap_cons, List.getElem?_append_right (by rw [Rec.cl_len]; omega), Rec.cl_len]
    have e : (k + 1) * 2 + j - 2 = k * 2 + j := by omega
    rw [e, flatC_at r k j (by simpa using hk) hj]
    rfl
def OwnRecs (t : TypeId) (w : World) (B : Nat) (v : Value) (l : List Rec) : Prop := w.ownsRow B t 2 v l.length (l.flatMap Rec.cl)
variable {t : TypeId} {w w' : World} {B : Nat} {v v' : Value} {l m : List Rec}
theorem OwnRecs.nil (t : TypeId) (w : World) (B : Nat) : OwnRecs t w B (.slice none 0 0) [] := World.ownsRow_nil w B t 2
theorem OwnRecs.below (h : OwnRecs t w B v l) (hb : Below w.heap.size w w') : OwnRecs t w' B v l := by
  refine ⟨h.1, ?_⟩
  rcases h.2 with h0 | ⟨g, cap, cur, hv, hbg, hg, r⟩
  · exact .inl h0
  · refine .inr ⟨g, cap, cur, hv, hbg, ?_, r⟩
    rw [hb.block g (Array.getElem?_eq_some_iff.1 hg).1]
    exact hg
theorem OwnRecs.form (h : OwnRecs t w B v l) : (v = .slice none 0 0 ∧ l = []) ∨ ∃ g cap, v = .slice (some ⟨g, 0, none⟩) l.length cap ∧ B ≤ g ∧ g < w.heap.size ∧ l.length ≤ cap ∧ cap ≤ maxLen := by
  rcases h.2 with ⟨rfl, h0⟩ | ⟨g, cap, cur, rfl, hbg, hg, hnc, hcm, hcs, htake⟩
  · exact .inl ⟨rfl, List.eq_nil_of_length_eq_zero h0⟩
  · exact .inr ⟨g, cap, rfl, hbg, (Array.getElem?_eq_some_iff.1 hg).1, hnc, hcm⟩
theorem OwnRecs.recAt {g cap : Nat} (h : OwnRecs t w B (.slice (some ⟨g, 0, none⟩) l.length cap) l) {k : Nat} (hk : k < l.length) :
    w.cell? ⟨g, k * 2, none⟩ = some (.string (rk l k).key) ∧ w.cell? ⟨g, k * 2 + 1, none⟩ = some (.string (rk l k).value) := by
  have c := fun j hj => (World.ownsRow.cellAt h (k * 2 + j) (by omega)).trans (flatC_at l k j hk hj)
  exact ⟨c 0 (by omega), c 1 (by omega)⟩
theorem rk_eq {l : List Rec} {k : Nat} (hk : k < l.length) : rk l k = l[k] := by simp [rk, List.getD_eq_getElem?_getD, List.getElem?_eq_getElem hk]
theorem OwnRecs.slice (h : OwnRecs t w B v l) (hl : l.length ≤ maxLen) (hz : ∀ r ∈ l, r.key.size ≤ maxLen ∧ r.value.size ≤ maxLen) : SliceC maxLen 2 (RecC maxLen) w [v] l := by
  rcases h.2 with ⟨rfl, h0⟩ | ⟨g, cap, cur, rfl, hbg, hg, hnc, hcm, hcs, htake⟩
  · obtain rfl := List.eq_nil_of_length_eq_zero h0
    exact ⟨none, 0, rfl, by simp, by simp, by simp, fun _ => rfl, fun h => absurd h (by simp)⟩
  · refine ⟨some ⟨g, 0, none⟩, cap, rfl, hnc, hcm, hl, (fun h => by cases h), fun _ => ⟨g, 0, rfl, fun i hi => ⟨(l[i]).cl, rfl, fun j hj => ?_, rfl, hz _ (List.getElem_mem hi)⟩⟩⟩
    rw [Nat.zero_add, World.ownsRow.cellAt h _ (by omega), flatC_at l i j hi hj, rk_eq hi]
def RetRecs (t : TypeId) (w : World) (p : List Rec × Int) (e : Ending) (w' : World) : Prop := ∃ v, e = .returned (.tuple #[v, .int .i64 p.2]) ∧ OwnRecs t w' w.heap.size v p.1 ∧ Below w.heap.size w w'
theorem src_rec {P : Program} (w : World) (tx e' e : TypeId) (hk : P.underlying tx = some (.slice e')) (x : Rec) : Src P 2 tx (.slice (some ⟨w.heap.size, 0, none⟩) 1 1) 1 ([x].flatMap Rec.cl) (w.alloc (.cells #[.string x.key, .string x.value] e)) := by
  refine Src.ofSlice _ hk ⟨w.heap.size, 0, none⟩ 1 1 _ rfl (fun j u hu => ?_) (fun u hu => ?_)
  · have hj : j < 2 := by
      rcases Nat.lt_or_ge j 2 with h | h
      · exact h
      · rw [List.getElem?_eq_none (by simpa [Rec.cl] using h)] at hu; cases hu
    have e : (⟨w.heap.size, 0, none⟩ : Addr).add j = ⟨w.heap.size, j, none⟩ := by unfold Addr.add; split <;> simp_all
    rw [e, World.cell?_alloc_new]
    simpa [Rec.cl] using hu
  · simp [Rec.cl] at hu
    rcases hu with rfl | rfl <;> rfl
theorem OwnRecs.app {t : TypeId} {w' : World} {B : Nat} {v' : Value} {l m : List Rec} (ho : w'.ownsRow B t 2 v' (l.length + m.length) (l.flatMap Rec.cl ++ m.flatMap Rec.cl)) : OwnRecs t w' B v' (l ++ m) := by
  unfold OwnRecs; rw [List.length_append, List.flatMap_append]; exact ho
theorem OwnRecs.form2 {t : TypeId} {w : World} {B : Nat} {v : Value} {l : List Rec} (h : OwnRecs t w B v l) : ∃ a cap, v = .slice a l.length cap ∧ cap ≤ maxLen ∧ (0 < l.length → ∃ g, a = some ⟨g, 0, none⟩ ∧ l.length ≤ cap ∧ g < w.heap.size) := by
  rcases h.form with ⟨rfl, rfl⟩ | ⟨g, cap, rfl, _, h1, h2, h3⟩
  · exact ⟨none, 0, rfl, by simp, fun h => absurd h (by simp)⟩
  · exact ⟨_, cap, rfl, h3, fun _ => ⟨g, rfl, h2, h1⟩⟩
end Go.Creel
namespace Go.Proofs.YtaffgndickdbiaaGreatDoor
open Go.Creel Go.RowKit
theorem info_record : (Tryz.prog.info? 85).map (fun i => (i.zero, i.size, i.bytes)) = some (some (.agg #[.string ⟨#[]⟩, .string ⟨#[]⟩]), 2, 32) := by kernel_rfl
end Go.Proofs.YtaffgndickdbiaaGreatDoor
