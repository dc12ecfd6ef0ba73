/-
  Two slices of records, compared.
-/
import Derived.Test.YtaffgndickdbiaaDoorRecsOwn
namespace Go.Proofs.YtaffgndickdbiaaDoor
set_option linter.unusedVariables false
set_option linter.unusedSimpArgs false
open Go.Creel Go.RowKit
set_option maxRecDepth 100000 in
set_option maxHeartbeats 2000000 in
theorem EqRecs_any (v1 v2 : Value) (l : List Rec) (B1 B2 : Nat) (w : World) (h1 : OwnRecs 88 w B1 v1 l) (h2 : OwnRecs 88 w B2 v2 l) :
    Calls Tryd.prog 68 #[v1, v2] w fun e w' => e = .returned (.bool true) ∧ Below w.heap.size w w' := by
  obtain ⟨a1, p1, rfl, q1, f1⟩ := h1.form2
  obtain ⟨a2, p2, rfl, q2, f2⟩ := h2.form2
  unfold maxLen at q1 q2
  by_cases hl : 0 < l.length
  · obtain ⟨g1, rfl, m1, _⟩ := f1 hl
    obtain ⟨g2, rfl, m2, _⟩ := f2 hl
    have H1 := Lib.hid (fun k (hk : k < l.length) => h1.recAt hk)
    have H2 := Lib.hid (fun k (hk : k < l.length) => h2.recAt hk)
    clear f1 f2 h1 h2
    go_enter Tryd.func68, Tryd.ntmps68
    go_wp2
    go_loopw [5, 13] (fun _ i wr => ∃ (k n : Nat), k ≤ l.length ∧ i = .int .i64 k ∧ wr = w.drewN n) (fun _ i _ => l.length - (intOf i).toNat)
    case atStart => exact ⟨0, 0, by omega, rfl, rfl⟩
    case round =>
      obtain ⟨k, n, hk, rfl, rfl⟩ := hrel
      by_cases hlt : k < l.length
      · obtain ⟨c0, c1⟩ := H1.out k hlt
        obtain ⟨d0, d1⟩ := H2.out k hlt
        generalize rk l k = x at *
        go_wp2
        go_quiet (fail)
        go_wp2
        go_roundw
        case rel => exact ⟨k + 1, _, by omega, by simp, rfl⟩
        case measure => simp only [intOf]; omega
      · have hk' : k = l.length := by omega
        subst hk'
        go_wp2
        go_ret
        exact ⟨rfl, below_drewN (Below.refl _ _) n⟩
  · obtain rfl : l = [] := List.eq_nil_of_length_eq_zero (by omega)
    clear f1 f2 h1 h2
    go_enter Tryd.func68, Tryd.ntmps68
    go_wp2
    go_loop [5, 13] (fun _ i => i = .int .i64 0) (fun _ _ => 0)
    case atStart => rfl
    case round =>
      obtain rfl := hrel
      go_wp2
      go_ret
      exact ⟨rfl, Below.refl _ _⟩
set_option maxRecDepth 100000 in
theorem SameRecs_any (v1 v2 : Value) (l : List Rec) (B1 B2 : Nat) (w : World) (h1 : OwnRecs 88 w B1 v1 l) (h2 : OwnRecs 88 w B2 v2 l) :
    Calls Tryd.prog 28 #[v1, v2] w fun e w' => e = .returned (.bool true) ∧ Below w.heap.size w w' := by
  have HE := Lib.hid (EqRecs_any v1 v2 l B1 B2 w h1 h2)
  clear h1 h2
  go_enter Tryd.func28, Tryd.ntmps28
  go_wp2_with fail
  refine HE.out.mono ?_
  rintro e w2 ⟨rfl, hb⟩
  have HB := Lib.hid hb
  clear hb
  go_wp2
  go_ret
  exact ⟨rfl, HB.out⟩
end Go.Proofs.YtaffgndickdbiaaDoor
