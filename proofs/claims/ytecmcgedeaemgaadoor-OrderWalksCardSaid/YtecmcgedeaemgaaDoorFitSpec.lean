/-
  Patterns of paths: what a part fits, and what a whole path fits. Plain words and laws.
-/
import Derived.Test.YtecmcgedeaemgaaDoorWildSpec
import Derived.Test.YtecmcgedeaemgaaDoorGlobTok
import Derived.Test.YtecmcgedeaemgaaDoorPathCheck
import Derived.Test.YtecmcgedeaemgaaDoorPathFns
namespace Go.Creel
set_option linter.unusedVariables false
open Go.RowKit
section
variable {n m : Nat} {star star' : Nat → Bool} {fits fits' : Nat → Nat → Bool}
theorem wildM_congr (h1 : ∀ i, i < n → star i = star' i) (h2 : ∀ i k, i < n → k < m → fits i k = fits' i k) : ∀ (d i k : Nat), (n - i) + (m - k) = d → wildM n m star fits i k = wildM n m star' fits' i k := by
  intro d
  induction d using Nat.strongRecOn with
  | ind d ih =>
    intro i k hd
    by_cases hi : i < n
    · conv => lhs; rw [wildM]
      conv => rhs; rw [wildM]
      rw [dif_pos hi, dif_pos hi, h1 i hi, ih _ (by omega) (i + 1) k rfl]
      by_cases hk : k < m
      · rw [dif_pos hk, dif_pos hk, dif_pos hk, dif_pos hk, ih _ (by omega) i (k + 1) rfl, ih _ (by omega) (i + 1) (k + 1) rfl, h2 i k hi hk]
      · rw [dif_neg hk, dif_neg hk, dif_neg hk, dif_neg hk]
    · conv => lhs; rw [wildM, dif_neg hi]
      conv => rhs; rw [wildM, dif_neg hi]
theorem wildP_congr (h1 : ∀ i, i < n → star i = star' i) (h2 : ∀ i k, i < n → k < m → fits i k = fits' i k) : ∀ i, i ≤ n → ∀ k, k ≤ m → wildP star fits i k = wildP star' fits' i k := by
  intro i
  induction i with
  | zero =>
    intro _ k _
    cases k <;> rw [wildP, wildP]
  | succ i ih =>
    intro hi k
    induction k with
    | zero => intro _; rw [wildP, wildP, ih (by omega) 0 (by omega), h1 i (by omega)]
    | succ k ihk =>
      intro hk
      rw [wildP, wildP, h1 i (by omega), ih (by omega) (k + 1) hk, ih (by omega) k (by omega), ihk (by omega), h2 i k (by omega) (by omega)]
end
/-- does a part of a path fit a part of a pattern? -/
def partFits (p s : ByteArray) : Bool := wildM (cuts p 0).length s.size (fun i => (piece (cuts p 0) i).toList == [42]) (fun i k => (tokAt (piece (cuts p 0) i) 0).fits (byt s k)) 0 0
def noTok : Tok := ⟨false, fun _ => false⟩
theorem partFits_toks (p s : ByteArray) (l : List Tok) (h : toks p 0 = some l) : partFits p s = wildP (fun i => (l.getD i noTok).star) (fun i k => (l.getD i noTok).fits (byt s k)) l.length s.size := by
  obtain ⟨hl, hj⟩ := toks_cuts _ 0 l rfl h
  unfold partFits
  rw [wild_table, hl]
  have hat : ∀ i, i < (cuts p 0).length → ∃ a, a < p.size ∧ ¬ tokBad p a ∧ l.getD i noTok = tokAt p a ∧ piece (cuts p 0) i = tokText p a := by
    intro i hi
    obtain ⟨a, h1, h2, h3, h4⟩ := hj i (by omega)
    refine ⟨a, h1, h2, ?_, ?_⟩
    · rw [List.getD_eq_getElem?_getD, h3]; rfl
    · unfold piece; rw [List.getD_eq_getElem?_getD, h4]; rfl
  refine wildP_congr (n := (cuts p 0).length) (m := s.size) (fun i hi => ?_) (fun i k hi _ => ?_) _ (Nat.le_refl _) _ (Nat.le_refl _)
  · obtain ⟨a, h1, h2, h3, h4⟩ := hat i hi
    show ((piece (cuts p 0) i).toList == [42]) = (l.getD i noTok).star
    rw [h3, h4, tokText_star h1 h2]
  · obtain ⟨a, h1, h2, h3, h4⟩ := hat i hi
    show (tokAt (piece (cuts p 0) i) 0).fits (byt s k) = (l.getD i noTok).fits (byt s k)
    rw [h3, h4, tokText_fits h1 h2]
/-- a sign's text: of a set its end is its end; none is empty -/
theorem cuts_good {p : ByteArray} (h : okAt p 0 = true) {i : Nat} (hi : i < (cuts p 0).length) : 1 ≤ (piece (cuts p 0) i).size ∧ (piece (cuts p 0) i).size ≤ p.size ∧ (byt (piece (cuts p 0) i) 0 = 91 → setEnd (piece (cuts p 0) i) 0 + 1 = (piece (cuts p 0) i).size) := by
  unfold okAt at h
  cases ht : toks p 0 with
  | none => rw [ht] at h; cases h
  | some l =>
    obtain ⟨hl, hj⟩ := toks_cuts _ 0 l rfl ht
    obtain ⟨a, h1, h2, h3, h4⟩ := hj i (by omega)
    have e : piece (cuts p 0) i = tokText p a := by unfold piece; rw [List.getD_eq_getElem?_getD, h4]; rfl
    have hs := tokText_size h1 h2
    have hg := tokNext_gt p a
    have hn := tokNext_le h1 h2
    rw [e]
    refine ⟨by omega, by omega, fun hb => tokText_set h1 h2 ?_⟩
    rw [← tokText_head (s := p) (i := a)]; exact hb
theorem cuts_len {p : ByteArray} (h : okAt p 0 = true) : (cuts p 0).length ≤ p.size := by
  have key : ∀ (d i : Nat), p.size - i = d → i ≤ p.size → (cuts p i).length + i ≤ p.size := by
    intro d
    induction d using Nat.strongRecOn with
    | ind d ih =>
      intro i hd hi
      by_cases h : i < p.size ∧ ¬ tokBad p i
      · rw [cuts_more h.1 h.2]
        have hg := tokNext_gt p i
        have := ih _ (by omega) (tokNext p i) rfl (tokNext_le h.1 h.2)
        simp
        omega
      · rw [cuts, dif_neg h]; simpa using hi
  have := key _ 0 rfl (Nat.zero_le _)
  omega
/-- does a path fit a pattern, both right? -/
def globFits (p s : ByteArray) : Bool := wildM (partsS 47 p).length (partsS 47 s).length (fun i => (piece (partsS 47 p) i).toList == [42, 42]) (fun i k => partFits (piece (partsS 47 p) i) (piece (partsS 47 s) k)) 0 0
theorem globFits_table (p s : ByteArray) : globFits p s = wildP (fun i => (piece (partsS 47 p) i).toList == [42, 42]) (fun i k => partFits (piece (partsS 47 p) i) (piece (partsS 47 s) k)) (partsS 47 p).length (partsS 47 s).length := by
  unfold globFits; rw [wild_table]
/-- the answer -/
def globFitsE (p s : ByteArray) : Bool × Int := if ¬ globFault p = 0 then (false, globFault p) else if ¬ pathFault s = 0 then (false, pathFault s) else (globFits p s, 0)
theorem globFitsE_bad {p s : ByteArray} (h : ¬ globFault p = 0) : globFitsE p s = (false, globFault p) := by unfold globFitsE; rw [if_pos h]
theorem globFitsE_path {p s : ByteArray} (h : globFault p = 0) (h2 : ¬ pathFault s = 0) : globFitsE p s = (false, pathFault s) := by unfold globFitsE; rw [if_neg (by simpa using h), if_pos h2]
theorem globFitsE_ok {p s : ByteArray} (h : globFault p = 0) (h2 : pathFault s = 0) : globFitsE p s = (globFits p s, 0) := by unfold globFitsE; rw [if_neg (by simpa using h), if_neg (by simpa using h2)]
theorem wrongG_inv {p : ByteArray} (h : wrongG p = 0) : ¬ p.size = 0 ∧ okAt p 0 = true := by
  unfold wrongG at h
  split at h
  · cases h
  · rename_i h0
    split at h
    · rename_i h1; exact ⟨h0, h1⟩
    · cases h
theorem firstG_inv : ∀ {l : List ByteArray}, firstG l = 0 → ∀ p ∈ l, wrongG p = 0
  | [], _, p, hp => by cases hp
  | q :: l, h, p, hp => by
    unfold firstG at h
    split at h
    · rename_i h0
      rcases List.mem_cons.1 hp with rfl | hp
      · exact h0
      · exact firstG_inv h p hp
    · rename_i h0; exact absurd h h0
theorem piece_mem {l : List ByteArray} {k : Nat} (h : k < l.length) : piece l k ∈ l := by rw [piece_eq h]; exact List.getElem_mem _
/-- a right pattern's parts are right -/
theorem globFault_inv {p : ByteArray} (h : globFault p = 0) : 1 ≤ p.size ∧ p.size ≤ 400 ∧ ∀ i, i < (partsS 47 p).length → okAt (piece (partsS 47 p) i) 0 = true ∧ 1 ≤ (piece (partsS 47 p) i).size := by
  unfold globFault at h
  split at h
  · cases h
  · rename_i h0
    exact ⟨by omega, by omega, fun i hi => by have := wrongG_inv (firstG_inv h _ (piece_mem hi)); exact ⟨this.2, by omega⟩⟩
theorem pathFault_inv {s : ByteArray} (h : pathFault s = 0) : 1 ≤ s.size ∧ s.size ≤ 400 := by
  unfold pathFault at h
  split at h
  · cases h
  · rename_i h0; exact ⟨by omega, by omega⟩
theorem partsS_size {c : UInt8} {s : ByteArray} (h : s.size ≤ 400) : ∀ p ∈ partsS c s, p.size ≤ 400 := by
  intro p hp
  unfold partsS at hp
  obtain ⟨q, hq, rfl⟩ := List.mem_map.1 hp
  rw [ofL_size]
  have := partsL_sizes c _ q hq
  have h3 : s.data.toList.length ≤ 400 := by rw [← Lib.size_eq]; exact h
  omega
theorem partsS_len (c : UInt8) (s : ByteArray) : (partsS c s).length ≤ s.size + 1 := by
  have := partsL_length c s.data.toList
  unfold partsS
  rw [List.length_map, Lib.size_eq s]; exact this
theorem partsS_pos (c : UInt8) (s : ByteArray) : 0 < (partsS c s).length := by
  unfold partsS
  rw [List.length_map]; exact List.length_pos_iff.2 (partsL_ne _ _)
end Go.Creel
