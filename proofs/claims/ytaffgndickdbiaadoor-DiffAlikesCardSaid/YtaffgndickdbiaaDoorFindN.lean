/-
  A path's place in a tree that a slice leads to; what is kept of a list.
-/
import Derived.Test.YtaffgndickdbiaaDoorCopyR
import Derived.Test.YtaffgndickdbiaaDoorTreeAll
namespace Go.Creel
set_option linter.unusedVariables false
set_option linter.unusedSimpArgs false
open Go.RowKit
theorem treeFind_lt : ∀ {l : List Nod} {s : ByteArray}, treeFind l s < l.length → (nk l (treeFind l s)).path = s
  | [], _, h => absurd h (by simp)
  | x :: t, s, h => by
    unfold treeFind at h ⊢
    by_cases e : x.path = s
    · rw [if_pos e]; exact e
    · rw [if_neg e] at h ⊢
      have h' : treeFind t s < t.length := by simp at h; omega
      exact treeFind_lt h'
theorem nodFault_size {x : Nod} (h : nodFault x = 0) : x.path.size ≤ 400 := by
  unfold nodFault nodFaultN at h
  have hp : pathFault x.path = 0 := Classical.byContradiction fun e => by rw [if_pos e] at h; exact e h
  refine Classical.byContradiction fun e => ?_
  have := pathFault_size (s := x.path) (.inr (by omega))
  rw [hp] at this
  cases this
theorem nodFault_dat {x : Nod} (h : nodFault x = 0) : x.data.length ≤ 2000 := by
  unfold nodFault nodFaultN at h
  split at h
  · rename_i h1; exact absurd h h1
  · split at h
    · rename_i h1; exact absurd h h1
    · split at h
      · split at h
        · cases h
        · split at h
          · cases h
          · omega
      · split at h
        · split at h
          · cases h
          · rename_i h1; omega
        · cases h
theorem treeFault_dat {l : List Nod} (h : treeFault l = 0) : ∀ i, i < l.length → (nk l i).data.length ≤ 140737488355328 := fun i hi => Nat.le_trans (nodFault_dat ((treeFault_all h).2 i hi)) (by omega)
theorem filter_dat {l : List Nod} (p : Nod → Bool) (h : ∀ i, i < l.length → (nk l i).data.length ≤ 140737488355328) : ∀ i, i < (l.filter p).length → (nk (l.filter p) i).data.length ≤ 140737488355328 := by
  intro i hi
  rw [nk_eq hi]
  have hm := (List.mem_filter.1 (List.getElem_mem hi)).1
  obtain ⟨j, hj, e⟩ := List.mem_iff_getElem.1 hm
  rw [← e, ← nk_eq hj]
  exact h j hj
theorem filterTo_keep {p : Nod → Bool} {l : List Nod} {k : Nat} (hk : k < l.length) (h : p (nk l k) = true) : (l.take (k + 1)).filter p = (l.take k).filter p ++ [nk l k] := by
  rw [take_nk hk, List.filter_append, List.filter_cons_of_pos h]
  rfl
theorem filterTo_skip {p : Nod → Bool} {l : List Nod} {k : Nat} (hk : k < l.length) (h : p (nk l k) = false) : (l.take (k + 1)).filter p = (l.take k).filter p := by
  rw [take_nk hk, List.filter_append, List.filter_cons_of_neg (by simp [h])]
  simp
end Go.Creel
namespace Go.Proofs.YtaffgndickdbiaaDoor
set_option linter.unusedVariables false
set_option linter.unusedSimpArgs false
open Go.Creel Go.RowKit
theorem FindN_any (v : Value) (l : List Nod) (s : ByteArray) (w : World) (h : SliceC maxLen 12 (NodC maxLen) w [v] l) :
    Calls Tryd.prog 48 #[v, .string s] w fun e w' => e = .returned (.tuple #[.int .i64 (findIE (treeFind l s) l.length).1, .int .i64 (findIE (treeFind l s) l.length).2]) ∧ Below w.heap.size w w' := by
  rcases nods_cases h with ⟨a, cap, rfl, rfl, _⟩ | ⟨b, off, cap, rfl, h1, h2, h3, h6, h4, h5⟩
  · exact Find_nil a cap s w
  · exact Find_at b off cap l s w h2 h3 h4
theorem TreeFindN_any (v : Value) (l : List Nod) (s : ByteArray) (w : World) (h : SliceC maxLen 12 (NodC maxLen) w [v] l) :
    Calls Tryd.prog 34 #[v, .string s] w fun e w' => e = .returned (.int .i64 (treeFind l s)) ∧ w = w' := by
  rcases nods_cases h with ⟨a, cap, rfl, rfl, _⟩ | ⟨b, off, cap, rfl, h1, h2, h3, h6, h4, h5⟩
  · exact TreeFind_nil a cap s w
  · exact TreeFind_at b off cap l s w h2 h3 h4
end Go.Proofs.YtaffgndickdbiaaDoor
