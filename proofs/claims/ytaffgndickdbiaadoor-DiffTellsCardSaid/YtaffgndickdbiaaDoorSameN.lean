/-
  diff.same and creelref.sameNode.
-/
import Derived.Test.YtaffgndickdbiaaDoorAlike
import Derived.Test.YtaffgndickdbiaaDoorSameTree
namespace Go.Creel
set_option linter.unusedVariables false
open Go.RowKit
open Classical in
/-- two nodes are the same, whatever their numbers tell -/
noncomputable def sameB (x y : Nod) : Bool := decide (x.path = y.path ∧ x.kind = y.kind ∧ x.target = y.target ∧ x.mt = y.mt ∧ x.data = y.data)
theorem sameB_t {x y : Nod} (h1 : x.path = y.path) (h2 : x.kind = y.kind) (h3 : x.target = y.target) (h4 : x.mt = y.mt) (h5 : x.data = y.data) : sameB x y = true := by unfold sameB; simp [h1, h2, h3, h4, h5]
theorem sameB_p {x y : Nod} (h : ¬ x.path = y.path) : sameB x y = false := by unfold sameB; simp [h]
theorem sameB_k {x y : Nod} (h : ¬ x.kind = y.kind) : sameB x y = false := by unfold sameB; simp [h]
theorem sameB_g {x y : Nod} (h : ¬ x.target = y.target) : sameB x y = false := by unfold sameB; simp [h]
theorem sameB_m {x y : Nod} (h : ¬ x.mt = y.mt) : sameB x y = false := by unfold sameB; simp [h]
theorem sameB_d {x y : Nod} (h : ¬ x.data = y.data) : sameB x y = false := by unfold sameB; simp [h]
theorem same_bare {x y : Nod} : x.bare = y.bare ↔ sameB x y = true ∧ x.same = y.same := by
  constructor
  · intro h
    obtain ⟨h1, h2, h3, h4, h5, h6⟩ := bare_parts h
    exact ⟨sameB_t h1 h2 h4 h5 h6, h3⟩
  · rintro ⟨h, hs⟩
    obtain ⟨h1, h2, h4, h5, h6⟩ : x.path = y.path ∧ x.kind = y.kind ∧ x.target = y.target ∧ x.mt = y.mt ∧ x.data = y.data := by unfold sameB at h; simpa using h
    obtain ⟨p, k, s, t, m, da, dc, d⟩ := x
    obtain ⟨p', k', s', t', m', da', dc', d'⟩ := y
    simp only at *
    subst h1 h2 hs h4 h5 h6
    rfl
end Go.Creel
namespace Go.Proofs.YtaffgndickdbiaaDoor
set_option linter.unusedVariables false
set_option linter.unusedSimpArgs false
open Go.Creel Go.RowKit
set_option maxRecDepth 100000 in
set_option maxHeartbeats 1000000 in
theorem Same_any {N : Nat} (x y : Nod) (w : World) (hx : SliceC N 1 ByteC w [.slice x.da x.data.length x.dcap] x.data) (hy : SliceC N 1 ByteC w [.slice y.da y.data.length y.dcap] y.data) :
    Calls Tryd.prog 32 #[x.val, y.val] w fun e w' => e = .returned (.bool (sameB x y)) ∧ Below w.heap.size w w' := by
  have HB := Lib.hid fun o1 o2 : Obj => ((Below.refl w.heap.size w).alloc (Nat.le_refl _) o1).alloc (by simp) o2
  have cx := conv2 w hx
  have cy := conv2 w hy
  clear hx hy
  by_cases hp : x.path = y.path
  · have q1 := seq_t hp
    by_cases hk : x.kind = y.kind
    · have q2 : (x.kind == y.kind) = true := by rw [hk]; simp
      by_cases ht : x.target = y.target
      · have q3 := seq_t ht
        by_cases hm : x.mt = y.mt
        · by_cases hd : x.data = y.data
          · have HF := Lib.hid (sameB_t hp hk ht hm hd)
            have q5 : ((ofL x.data).toList == (ofL y.data).toList) = true := by rw [hd]; simp
            clear hp hk ht hd
            obtain ⟨p, k, s, t, m, da, dc, d⟩ := x
            obtain ⟨p', k', s', t', m', da', dc', d'⟩ := y
            obtain rfl : m = m' := hm
            go_enter Tryd.func32, Tryd.ntmps32
            go_wp2
            all_goals first
              | (exfalso; simp_all; done)
              | (go_ret; exact ⟨ret_b HF.out, HB.out _ _⟩)
          · have HF := Lib.hid (sameB_d hd)
            have q5 : ((ofL x.data).toList == (ofL y.data).toList) = false := seq_f (fun e => hd (ofL_inj e))
            clear hp hk ht hd
            obtain ⟨p, k, s, t, m, da, dc, d⟩ := x
            obtain ⟨p', k', s', t', m', da', dc', d'⟩ := y
            obtain rfl : m = m' := hm
            go_enter Tryd.func32, Tryd.ntmps32
            go_wp2
            all_goals first
              | (exfalso; simp_all; done)
              | (go_ret; exact ⟨ret_b HF.out, HB.out _ _⟩)
        · have HF := Lib.hid (sameB_m hm)
          have HM := Lib.hid hm
          clear hp hk ht hm
          go_enter Tryd.func32, Tryd.ntmps32
          go_wp2
          all_goals first
            | (exfalso; exact HM.out (meta_same (by assumption) (by assumption) (by assumption) (by assumption) (by assumption) (by assumption) (by assumption)))
            | (go_ret; exact ⟨ret_b HF.out, HB.out _ _⟩)
      · have HF := Lib.hid (sameB_g ht)
        have q3 := seq_f ht
        clear hp hk ht
        go_enter Tryd.func32, Tryd.ntmps32
        go_wp2
        go_ret
        exact ⟨ret_b HF.out, HB.out _ _⟩
    · have HF := Lib.hid (sameB_k hk)
      have q2 : (x.kind == y.kind) = false := by rw [beq_eq_false_iff_ne]; exact hk
      clear hp hk
      go_enter Tryd.func32, Tryd.ntmps32
      go_wp2
      go_ret
      exact ⟨ret_b HF.out, HB.out _ _⟩
  · have HF := Lib.hid (sameB_p hp)
    have q1 := seq_f hp
    clear hp
    go_enter Tryd.func32, Tryd.ntmps32
    go_wp2
    go_ret
    exact ⟨ret_b HF.out, HB.out _ _⟩
set_option maxRecDepth 100000 in
set_option maxHeartbeats 1000000 in
theorem SameR_any {N : Nat} (x y : Nod) (w : World) (hx : SliceC N 1 ByteC w [.slice x.da x.data.length x.dcap] x.data) (hy : SliceC N 1 ByteC w [.slice y.da y.data.length y.dcap] y.data) :
    Calls Tryd.prog 36 #[x.val, y.val] w fun e w' => e = .returned (.bool (sameB x y)) ∧ Below w.heap.size w w' := by
  have HB := Lib.hid fun o1 o2 : Obj => ((Below.refl w.heap.size w).alloc (Nat.le_refl _) o1).alloc (by simp) o2
  have cx := conv2 w hx
  have cy := conv2 w hy
  clear hx hy
  by_cases hp : x.path = y.path
  · have q1 := seq_t hp
    by_cases hk : x.kind = y.kind
    · have q2 : (x.kind == y.kind) = true := by rw [hk]; simp
      by_cases ht : x.target = y.target
      · have q3 := seq_t ht
        by_cases hm : x.mt = y.mt
        · by_cases hd : x.data = y.data
          · have HF := Lib.hid (sameB_t hp hk ht hm hd)
            have q5 : ((ofL x.data).toList == (ofL y.data).toList) = true := by rw [hd]; simp
            clear hp hk ht hd
            obtain ⟨p, k, s, t, m, da, dc, d⟩ := x
            obtain ⟨p', k', s', t', m', da', dc', d'⟩ := y
            obtain rfl : m = m' := hm
            go_enter Tryd.func36, Tryd.ntmps36
            go_wp2
            all_goals first
              | (exfalso; simp_all; done)
              | (go_ret; exact ⟨ret_b HF.out, HB.out _ _⟩)
          · have HF := Lib.hid (sameB_d hd)
            have q5 : ((ofL x.data).toList == (ofL y.data).toList) = false := seq_f (fun e => hd (ofL_inj e))
            clear hp hk ht hd
            obtain ⟨p, k, s, t, m, da, dc, d⟩ := x
            obtain ⟨p', k', s', t', m', da', dc', d'⟩ := y
            obtain rfl : m = m' := hm
            go_enter Tryd.func36, Tryd.ntmps36
            go_wp2
            all_goals first
              | (exfalso; simp_all; done)
              | (go_ret; exact ⟨ret_b HF.out, HB.out _ _⟩)
        · have HF := Lib.hid (sameB_m hm)
          have HM := Lib.hid hm
          clear hp hk ht hm
          go_enter Tryd.func36, Tryd.ntmps36
          go_wp2
          all_goals first
            | (exfalso; exact HM.out (meta_same (by assumption) (by assumption) (by assumption) (by assumption) (by assumption) (by assumption) (by assumption)))
            | (go_ret; exact ⟨ret_b HF.out, HB.out _ _⟩)
      · have HF := Lib.hid (sameB_g ht)
        have q3 := seq_f ht
        clear hp hk ht
        go_enter Tryd.func36, Tryd.ntmps36
        go_wp2
        go_ret
        exact ⟨ret_b HF.out, HB.out _ _⟩
    · have HF := Lib.hid (sameB_k hk)
      have q2 : (x.kind == y.kind) = false := by rw [beq_eq_false_iff_ne]; exact hk
      clear hp hk
      go_enter Tryd.func36, Tryd.ntmps36
      go_wp2
      go_ret
      exact ⟨ret_b HF.out, HB.out _ _⟩
  · have HF := Lib.hid (sameB_p hp)
    have q1 := seq_f hp
    clear hp
    go_enter Tryd.func36, Tryd.ntmps36
    go_wp2
    go_ret
    exact ⟨ret_b HF.out, HB.out _ _⟩
end Go.Proofs.YtaffgndickdbiaaDoor
