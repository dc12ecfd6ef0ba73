/-
  write.Sum and its reference.
-/
import Derived.Test.YtgpcdoplahmcoaaData
namespace Go.Creel
/-- the sum of the first k bytes -/
def asum (l : List UInt8) : Nat → Int
  | 0 => 1
  | k + 1 => (asum l k * 31 + bl l k) % 1000003
theorem asum_bd (l : List UInt8) (k : Nat) : 0 ≤ asum l k ∧ asum l k < 1000003 := by
  cases k with
  | zero => simp [asum]
  | succ k => simp only [asum]; omega
end Go.Creel
namespace Go.Proofs.Ytgpcdoplahmcoaa
set_option linter.unusedVariables false
open Go.Creel Go.RowKit
set_option maxRecDepth 100000 in
set_option maxHeartbeats 400000 in
theorem Sum_bytes {N : Nat} (v : Value) (l : List UInt8) (w : World) (h : SliceC N 1 ByteC w [v] l) :
    Calls Try.prog 15 #[v] w fun e w' => e = .returned (.int .i64 (asum l l.length)) ∧ w = w' := by
  rcases bytes_cases h with ⟨a, cap, rfl, rfl⟩ | ⟨b, off, cap, rfl, hpos, hle, hm, _, hc⟩
  · go_enter Try.func15, Try.ntmps15
    go_wp2
    go_loop [3, 5, 8] (fun n _ i => i = .int .i64 0 ∧ n = .int .i64 1) (fun _ _ _ => 0)
    case atStart => exact ⟨rfl, rfl⟩
    case round =>
      obtain ⟨rfl, rfl⟩ := hrel
      go_wp2
      go_ret
      exact ⟨rfl, rfl⟩
  · unfold maxLen at hm
    have Hc := Lib.hid hc
    clear hc h
    go_enter Try.func15, Try.ntmps15
    go_wp2
    go_loop [3, 5, 8] (fun n _ i => ∃ k : Nat, k ≤ l.length ∧ i = .int .i64 k ∧ n = .int .i64 (asum l k)) (fun _ _ i => l.length - (intOf i).toNat)
    case atStart => exact ⟨0, by omega, rfl, rfl⟩
    case round =>
      obtain ⟨k, hk, rfl, rfl⟩ := hrel
      have hd := asum_bd l k
      by_cases hlt : k < l.length
      · have hb := bl_lt l k
        have hck := Hc.out k hlt
        have HS := Lib.hid (show asum l (k+1) = (asum l k * 31 + bl l k) % 1000003 from rfl)
        go_wp2
        go_round
        case rel => exact ⟨k + 1, by omega, by go_num, by rw [HS.out]⟩
        case measure => simp [intOf]; omega
      · have hk' : k = l.length := by omega
        subst hk'
        go_wp2
        go_ret
        exact ⟨rfl, rfl⟩
set_option maxRecDepth 100000 in
set_option maxHeartbeats 400000 in
theorem ArcSum_bytes {N : Nat} (v : Value) (l : List UInt8) (w : World) (h : SliceC N 1 ByteC w [v] l) :
    Calls Try.prog 16 #[v] w fun e w' => e = .returned (.int .i64 (asum l l.length)) ∧ w = w' := by
  rcases bytes_cases h with ⟨a, cap, rfl, rfl⟩ | ⟨b, off, cap, rfl, hpos, hle, hm, _, hc⟩
  · go_enter Try.func16, Try.ntmps16
    go_wp2
    go_loop [3, 4] (fun n i => i = .int .i64 0 ∧ n = .int .i64 1) (fun _ _ => 0)
    case atStart => exact ⟨rfl, rfl⟩
    case round =>
      obtain ⟨rfl, rfl⟩ := hrel
      go_wp2
      go_ret
      exact ⟨rfl, rfl⟩
  · unfold maxLen at hm
    have Hc := Lib.hid hc
    clear hc h
    go_enter Try.func16, Try.ntmps16
    go_wp2
    go_loop [3, 4] (fun n i => ∃ k : Nat, k ≤ l.length ∧ i = .int .i64 k ∧ n = .int .i64 (asum l k)) (fun _ i => l.length - (intOf i).toNat)
    case atStart => exact ⟨0, by omega, rfl, rfl⟩
    case round =>
      obtain ⟨k, hk, rfl, rfl⟩ := hrel
      have hd := asum_bd l k
      by_cases hlt : k < l.length
      · have hb := bl_lt l k
        have hck := Hc.out k hlt
        have HS := Lib.hid (show asum l (k+1) = (asum l k * 31 + bl l k) % 1000003 from rfl)
        go_wp2
        go_round
        case rel => exact ⟨k + 1, by omega, by go_num, by rw [HS.out]⟩
        case measure => simp [intOf]; omega
      · have hk' : k = l.length := by omega
        subst hk'
        go_wp2
        go_ret
        exact ⟨rfl, rfl⟩
end Go.Proofs.Ytgpcdoplahmcoaa
