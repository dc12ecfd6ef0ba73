/-
  tree.alike.
-/
import Derived.Test.YtaffgndickdbiaaDoorTree
namespace Go.Creel
set_option linter.unusedVariables false
open Go.RowKit
open Classical in
/-- two nodes have the same meta and the same bytes -/
noncomputable def likeB (x y : Nod) : Bool := decide (x.mt = y.mt ∧ x.data = y.data)
theorem likeB_t {x y : Nod} (h1 : x.mt = y.mt) (h2 : x.data = y.data) : likeB x y = true := by unfold likeB; simp [h1, h2]
theorem likeB_m {x y : Nod} (h1 : x.mt ≠ y.mt) : likeB x y = false := by unfold likeB; simp [h1]
theorem likeB_d {x y : Nod} (h1 : x.data ≠ y.data) : likeB x y = false := by unfold likeB; simp [h1]
theorem likeB_iff {x y : Nod} : likeB x y = true ↔ x.mt = y.mt ∧ x.data = y.data := by unfold likeB; simp
theorem meta_same {x y : Meta} (h0 : x.mode = y.mode) (h1 : x.uid = y.uid) (h2 : x.gid = y.gid) (h3 : x.user.toList = y.user.toList) (h4 : x.group.toList = y.group.toList) (h5 : x.second = y.second) (h6 : x.nano = y.nano) : x = y := by
  obtain ⟨a, b, c, d, e, f, g⟩ := x
  obtain ⟨a', b', c', d', e', f', g'⟩ := y
  simp only at *
  rw [h0, h1, h2, toList_inj h3, toList_inj h4, h5, h6]
/-- metas that differ: where they first do -/
theorem meta_cases {x y : Meta} (h : x ≠ y) : (¬ x.mode = y.mode) ∨ (x.mode = y.mode ∧ ¬ x.uid = y.uid) ∨ (x.mode = y.mode ∧ x.uid = y.uid ∧ ¬ x.gid = y.gid) ∨ (x.mode = y.mode ∧ x.uid = y.uid ∧ x.gid = y.gid ∧ ¬ x.user.toList = y.user.toList) ∨
    (x.mode = y.mode ∧ x.uid = y.uid ∧ x.gid = y.gid ∧ x.user.toList = y.user.toList ∧ ¬ x.group.toList = y.group.toList) ∨ (x.mode = y.mode ∧ x.uid = y.uid ∧ x.gid = y.gid ∧ x.user.toList = y.user.toList ∧ x.group.toList = y.group.toList ∧ ¬ x.second = y.second) ∨
    (x.mode = y.mode ∧ x.uid = y.uid ∧ x.gid = y.gid ∧ x.user.toList = y.user.toList ∧ x.group.toList = y.group.toList ∧ x.second = y.second ∧ ¬ x.nano = y.nano) := by
  by_cases h0 : x.mode = y.mode
  · by_cases h1 : x.uid = y.uid
    · by_cases h2 : x.gid = y.gid
      · by_cases h3 : x.user.toList = y.user.toList
        · by_cases h4 : x.group.toList = y.group.toList
          · by_cases h5 : x.second = y.second
            · by_cases h6 : x.nano = y.nano
              · exact absurd (meta_same h0 h1 h2 h3 h4 h5 h6) h
              · simp [h0, h1, h2, h3, h4, h5, h6]
            · simp [h0, h1, h2, h3, h4, h5]
          · simp [h0, h1, h2, h3, h4]
        · simp [h0, h1, h2, h3]
      · simp [h0, h1, h2]
    · simp [h0, h1]
  · simp [h0]
end Go.Creel
namespace Go.Proofs.YtaffgndickdbiaaDoor
set_option linter.unusedVariables false
set_option linter.unusedSimpArgs false
open Go.Creel Go.RowKit
theorem conv2 (w : World) {N : Nat} {v : Value} {l : List UInt8} (h : SliceC N 1 ByteC w [v] l) (o1 o2 : Obj) : (convert 38 9 v).run Tryd.prog ((w.alloc o1).alloc o2) = .ok (.string (ofL l)) ((w.alloc o1).alloc o2) :=
  conv _ (h.below (fun _ _ h => h) (((Below.refl _ _).alloc (Nat.le_refl _) _).alloc (by simp) _))
set_option maxRecDepth 100000 in
set_option maxHeartbeats 1000000 in
theorem Alike_any {N : Nat} (x y : Nod) (w : World) (hx : SliceC N 1 ByteC w [.slice x.da x.data.length x.dcap] x.data) (hy : SliceC N 1 ByteC w [.slice y.da y.data.length y.dcap] y.data) :
    Calls Tryd.prog 71 #[x.val, y.val] w fun e w' => e = .returned (.bool (likeB x y)) ∧ Below w.heap.size w w' := by
  have HB := Lib.hid fun o1 o2 : Obj => ((Below.refl w.heap.size w).alloc (Nat.le_refl _) o1).alloc (by simp) o2
  have cx := conv2 w hx
  have cy := conv2 w hy
  clear hx hy
  by_cases hm : x.mt = y.mt
  · obtain ⟨p, k, s, t, m, da, dc, d⟩ := x
    obtain ⟨p', k', s', t', m', da', dc', d'⟩ := y
    obtain rfl : m = m' := hm
    by_cases hd : d = d'
    · have HF := Lib.hid (likeB_t (x := ⟨p, k, s, t, m, da, dc, d⟩) (y := ⟨p', k', s', t', m, da', dc', d'⟩) rfl hd)
      have he : ((ofL d).toList == (ofL d').toList) = true := by rw [hd]; simp
      clear hd
      go_enter Tryd.func71, Tryd.ntmps71
      go_wp2
      all_goals first
        | (exfalso; simp_all; done)
        | (go_ret; exact ⟨ret_b HF.out, HB.out _ _⟩)
    · have HF := Lib.hid (likeB_d (x := ⟨p, k, s, t, m, da, dc, d⟩) (y := ⟨p', k', s', t', m, da', dc', d'⟩) hd)
      have he : ((ofL d).toList == (ofL d').toList) = false := seq_f (fun e => hd (ofL_inj e))
      clear hd
      go_enter Tryd.func71, Tryd.ntmps71
      go_wp2
      all_goals first
        | (exfalso; simp_all; done)
        | (go_ret; exact ⟨ret_b HF.out, HB.out _ _⟩)
  · have HF := Lib.hid (likeB_m hm)
    have HM := Lib.hid hm
    clear hm
    go_enter Tryd.func71, Tryd.ntmps71
    go_wp2
    all_goals first
      | (exfalso; exact HM.out (meta_same (by assumption) (by assumption) (by assumption) (by assumption) (by assumption) (by assumption) (by assumption)))
      | (go_ret; exact ⟨ret_b HF.out, HB.out _ _⟩)
end Go.Proofs.YtaffgndickdbiaaDoor
