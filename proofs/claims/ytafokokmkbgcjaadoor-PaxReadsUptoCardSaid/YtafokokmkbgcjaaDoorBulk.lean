/-
  What the bound of an '..UptoSaid' statement says of a reading.
-/
import Derived.Test.YtafokokmkbgcjaaDoorData
namespace Go.Proofs.YtafokokmkbgcjaaDoor
open Go.Creel
set_option linter.unusedVariables false
/-- a reading of bulk at most 1048576 -/
def bulkS (H : Type) (d : DataW H) : Prop := Rows.uptoBulk d ≤ 1048576
theorem bulk_one {H : Type} (d : DataW H) : 1 ≤ Rows.uptoBulk d := by
  cases d with
  | lit l => cases l <;> simp [Rows.uptoBulk]
  | nil => simp [Rows.uptoBulk]
  | ptr d => simp [Rows.uptoBulk]
  | slice elems spare => simp [Rows.uptoBulk]
  | agg parts => simp [Rows.uptoBulk]
  | iface t d => simp [Rows.uptoBulk]
  | map entries => simp [Rows.uptoBulk]
  | held h => simp [Rows.uptoBulk]
theorem bulk_part {H : Type} {d : DataW H} {l : List (DataW H)} (h : d ∈ l) : Rows.uptoBulk d ≤ Rows.uptoBulkAll l := by
  induction l with
  | nil => cases h
  | cons x r ih =>
    simp only [Rows.uptoBulkAll]
    cases List.mem_cons.1 h with
    | inl e => subst e; omega
    | inr e => have := ih e; omega
theorem bulk_length {H : Type} (l : List (DataW H)) : l.length ≤ Rows.uptoBulkAll l := by
  induction l with
  | nil => simp [Rows.uptoBulkAll]
  | cons x r ih => have := bulk_one x; simp only [Rows.uptoBulkAll, List.length_cons]; omega
theorem bulk_bd (H : Type) : Bd H (bulkS H) 1048576 where
  str l h _ := by
    simp only [bulkS, Rows.uptoBulk] at h
    omega
  slc el sp h _ := by
    simp only [bulkS, Rows.uptoBulk] at h
    have := bulk_length el
    exact ⟨by omega, fun d hd => by have := bulk_part hd; unfold bulkS; omega⟩
  agg ps h d hd := by
    simp only [bulkS, Rows.uptoBulk] at h
    have := bulk_part hd
    unfold bulkS; omega
theorem bulk_mem {H : Type} {ds : List (DataW H)} {d : DataW H} (hk : Rows.uptoSmall H ds = true) (h : d ∈ ds) : bulkS H d := by
  have h1 : Rows.uptoBulkAll ds ≤ 1048576 := of_decide_eq_true hk
  have := bulk_part h
  unfold bulkS; omega
end Go.Proofs.YtafokokmkbgcjaaDoor
