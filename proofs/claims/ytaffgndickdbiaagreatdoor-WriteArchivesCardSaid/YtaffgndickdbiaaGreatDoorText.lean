/-
  Bytes looked for in texts: strings.IndexByte, the reference's 'has'.
-/
import Derived.Test.YtaffgndickdbiaaGreatDoorData
namespace Go.Creel
set_option linter.unusedVariables false
def hasB (s : ByteArray) (c : UInt8) : Bool := s.data.toList.any (· == c)
theorem get_byt (s : ByteArray) (k : Nat) (h : k < s.size) (c : UInt8) : (s.data.toList[k]'(by simpa using h) = c) ↔ byt s k = c.toNat := by
  unfold byt
  rw [List.getD_eq_getElem?_getD, List.getElem?_eq_getElem (by simpa using h)]
  constructor
  · intro e; simp [e]
  · intro e; exact UInt8.toNat_inj.1 e
theorem hasB_true {s : ByteArray} {c : UInt8} {k : Nat} (h : k < s.size) (e : byt s k = c.toNat) : hasB s c = true := by
  unfold hasB
  rw [List.any_eq_true]
  exact ⟨_, List.getElem_mem (by simpa using h), by rw [beq_iff_eq]; exact (get_byt s k h c).2 e⟩
theorem hasB_false {s : ByteArray} {c : UInt8} (h : ∀ k, k < s.size → byt s k ≠ c.toNat) : hasB s c = false := by
  unfold hasB
  rw [List.any_eq_false]
  intro x hx
  obtain ⟨k, hk, rfl⟩ := List.getElem_of_mem hx
  have hk' : k < s.size := by simpa using hk
  rw [beq_iff_eq]
  exact fun e => h k hk' ((get_byt s k hk' c).1 e)
theorem hasB_no {s : ByteArray} {c : UInt8} (h : hasB s c = false) (k : Nat) (hk : k < s.size) : byt s k ≠ c.toNat := by
  intro e
  rw [hasB_true hk e] at h
  cases h
theorem idx_has (s : ByteArray) (c : UInt8) : decide (0 ≤ firstIdx s c) = hasB s c := firstIdx_nonneg s c
theorem idx_none {s : ByteArray} {c : UInt8} (h : hasB s c = false) : firstIdx s c = -1 := by
  apply firstIdx_none
  unfold hasB at h
  rw [List.any_eq_false] at h
  intro b hb e
  exact h b hb (by simp [e])
theorem idx_ge {s : ByteArray} {c : UInt8} (h : hasB s c = true) : 0 ≤ firstIdx s c := by
  rw [← idx_has] at h
  simpa using h
theorem idx_lt {s : ByteArray} {c : UInt8} : firstIdx s c < 0 ∨ ∃ i : Nat, firstIdx s c = i ∧ i < s.size ∧ byt s i = c.toNat ∧ ∀ j, j < i → byt s j ≠ c.toNat := by
  unfold firstIdx
  have key : ∀ i, i < s.size → ((s[i]! == c) = true ↔ byt s i = c.toNat) := by
    intro i hi
    rw [beq_iff_eq, getElem!_pos s i hi, ← byt_get s i hi]
    exact UInt8.toNat_inj.symm
  cases hf : (List.range s.size).find? fun i => s[i]! == c with
  | none => left; simp
  | some i =>
    right
    have h1 := List.find?_some hf
    have h2 := List.mem_range.1 (List.mem_of_find?_eq_some hf)
    refine ⟨i, rfl, h2, (key i h2).1 h1, fun j hj => ?_⟩
    have h3 := (List.find?_range_eq_some.1 hf).2.2 j hj
    intro e
    have := (key j (by omega)).2 e
    simp [this] at h3
end Go.Creel
namespace Go.Proofs.YtaffgndickdbiaaGreatDoor
set_option linter.unusedVariables false
open Go.Creel Go.RowKit
theorem call_indexByteString (s : ByteArray) (n : Int) (w : World) : (callFunc 199 #[.string s, .int .u8 n]).run Tryz.prog w = .ok (.value (.int .i64 (firstIdx s n.toNat.toUInt8))) w := by
  rw [run_callFunc_extern (P := Tryz.prog) Tryz.func199 (by kernel_rfl) (by kernel_rfl) (by kernel_rfl) (e := Extern.BytealgIndexByte.indexByte) (by kernel_rfl), run_indexByte_string]
  rfl
set_option maxRecDepth 100000 in
theorem IndexByte_any (s : ByteArray) (n : Int) (w : World) :
    Calls Tryz.prog 84 #[.string s, .int .u8 n] w fun e w' => e = .returned (.int .i64 (firstIdx s n.toNat.toUInt8)) ∧ w = w' := by
  have hcall := call_indexByteString s n w
  go_enter Tryz.func84, Tryz.ntmps84
  go_wp2
  go_ret
  exact ⟨rfl, rfl⟩
set_option maxRecDepth 100000 in
set_option maxHeartbeats 400000 in
theorem has_any (s : ByteArray) (c : UInt8) (n : Int) (hn : n = c.toNat) (w : World) (hs : s.size ≤ maxLen) :
    Calls Tryz.prog 105 #[.string s, .int .u8 n] w fun e w' => e = .returned (.bool (hasB s c)) ∧ w = w' := by
  unfold maxLen at hs
  have HN := Lib.hid hn
  clear hn
  go_enter Tryz.func105, Tryz.ntmps105
  go_wp2
  go_loop [5] (fun i => ∃ k : Nat, k ≤ s.size ∧ i = .int .i64 k ∧ Hid (∀ j, j < k → byt s j ≠ c.toNat)) (fun i => s.size - (intOf i).toNat)
  case atStart => exact ⟨0, by omega, rfl, fun j hj => absurd hj (by omega)⟩
  case round =>
    obtain ⟨k, hk, rfl, HD⟩ := hrel
    by_cases hlt : k < s.size
    · have HB := Lib.hid (byt_get s k hlt)
      have hb' : s[k].toNat < 256 := UInt8.toNat_lt _
      by_cases he : byt s k = c.toNat
      · have HF := Lib.hid (hasB_true hlt he)
        have hq : (((s[k].toNat : Nat) : Int) == n) = true := by rw [HN.out, HB.out, he]; simp
        clear he
        go_wp2
        go_ret
        exact ⟨ret_b HF.out, rfl⟩
      · have hq : (((s[k].toNat : Nat) : Int) == n) = false := by rw [HN.out, HB.out, beq_eq_false_iff_ne]; omega
        have HE := Lib.hid he
        clear he
        go_wp2
        go_round
        case rel =>
          refine ⟨k + 1, by omega, by go_num, fun j hj => ?_⟩
          by_cases e : j = k
          · rw [e]; exact HE.out
          · exact HD.out j (by omega)
        case measure => simp [intOf]; omega
    · obtain rfl : k = s.size := by omega
      have HF := Lib.hid (hasB_false HD.out)
      go_wp2
      go_ret
      exact ⟨ret_b HF.out, rfl⟩
end Go.Proofs.YtaffgndickdbiaaGreatDoor
