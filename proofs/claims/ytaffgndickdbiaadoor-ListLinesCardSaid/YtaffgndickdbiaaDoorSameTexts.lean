/-
  Two slices of texts, compared.
-/
import Derived.Test.YtaffgndickdbiaaDoorPathFns
namespace Go.Proofs.YtaffgndickdbiaaDoor
set_option linter.unusedVariables false
open Go.Creel Go.RowKit
theorem slice_form {t : TypeId} {w : World} {B : Nat} {v : Value} {l : List ByteArray} (h : OwnSs t w B v l) : ∃ p cap, v = .slice p l.length cap ∧ (0 < l.length → ∃ g, p = some ⟨g, 0, none⟩) := by
  rcases h.form with ⟨rfl, rfl⟩ | ⟨g, cap, rfl, hgB, hgw, hcap, hcapm⟩
  · exact ⟨none, 0, rfl, fun h => absurd h (by simp)⟩
  · exact ⟨_, _, rfl, fun _ => ⟨g, rfl⟩⟩
set_option maxRecDepth 100000 in
theorem sameTexts_eq (w : World) (B C : Nat) (v u : Value) (l : List ByteArray) (hl : l.length ≤ 8000000000) (hv : OwnSs 9 w B v l) (hu : OwnSs 9 w C u l) :
    Calls Tryd.prog 63 #[v, u] w fun e w' => e = .returned (.bool true) ∧ Below w.heap.size w w' := by
  obtain ⟨p, cap, rfl, hp⟩ := slice_form hv
  obtain ⟨q, caq, rfl, hq⟩ := slice_form hu
  have HV := Lib.hid hv
  have HU := Lib.hid hu
  have HP := Lib.hid hp
  have HQ := Lib.hid hq
  clear hv hu hp hq
  go_enter Tryd.func63, Tryd.ntmps63
  go_wp2
  go_loopw [5, 13] (fun _ i wr => ∃ k : Nat, k ≤ l.length ∧ i = .int .i64 k ∧ Below w.heap.size w wr) (fun _ i _ => l.length - (intOf i).toNat)
  case atStart => exact ⟨0, by omega, rfl, Below.refl _ _⟩
  case round =>
    obtain ⟨k, hk, rfl, hb⟩ := hrel
    by_cases hlt : k < l.length
    · obtain ⟨g, rfl⟩ := HP.out (by omega)
      obtain ⟨g2, rfl⟩ := HQ.out (by omega)
      have hc := (HV.out.below hb).cell hlt
      have hc2 := (HU.out.below hb).cell hlt
      have HBB := Lib.hid hb
      clear hb
      generalize piece l k = x at *
      have hd1 := hc
      have hd2 := hc2
      have he : (x.toList == x.toList) = true := by simp
      go_wp2
      go_quiet (fail)
      go_wp2
      go_roundw
      case rel => exact ⟨k + 1, by omega, by go_num, HBB.out.trans (below_draws _ _ _)⟩
      case measure => simp [intOf]; omega
    · obtain rfl : k = l.length := by omega
      have HBB := Lib.hid hb
      clear hb
      go_wp2
      go_ret
      exact ⟨rfl, HBB.out⟩
set_option maxRecDepth 100000 in
theorem lawTexts_eq (w : World) (B C : Nat) (v u : Value) (l : List ByteArray) (hl : l.length ≤ 8000000000) (hv : OwnSs 9 w B v l) (hu : OwnSs 9 w C u l) :
    Calls Tryd.prog 23 #[v, u] w fun e w' => e = .returned (.bool true) ∧ Below w.heap.size w w' := by
  have HC := Lib.hid (sameTexts_eq w B C v u l hl hv hu)
  obtain ⟨p, cap, rfl, _⟩ := slice_form hv
  obtain ⟨q, caq, rfl, _⟩ := slice_form hu
  clear hv hu hl
  go_enter Tryd.func23, Tryd.ntmps23
  go_wp2_with fail
  refine HC.out.mono ?_
  rintro e w1 ⟨rfl, hb⟩
  have HB := Lib.hid hb
  clear hb
  go_wp2
  go_ret
  exact ⟨rfl, HB.out⟩
end Go.Proofs.YtaffgndickdbiaaDoor
