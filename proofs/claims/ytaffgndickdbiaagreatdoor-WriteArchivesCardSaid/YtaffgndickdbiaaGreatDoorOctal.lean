/-
  octal.Write, octal.Read and their references.
-/
import Derived.Test.YtaffgndickdbiaaGreatDoorOctalMost
namespace Go.Creel
set_option linter.unusedVariables false
/-- the last k octal digits of n, as signs -/
def digs : Nat → Nat → List UInt8
  | 0, _ => []
  | k + 1, n => UInt8.ofNat (48 + n / 8 ^ k % 8) :: digs k n
theorem digs_length (k n : Nat) : (digs k n).length = k := by
  induction k with
  | zero => rfl
  | succ k ih => simp [digs, ih]
/-- octal.Write's answer -/
def octText (n width : Int) : ByteArray × Int :=
  if 2 ≤ width ∧ width ≤ 12 then
    if 0 ≤ n ∧ n ≤ 8 ^ (width - 1).toNat - 1 then (ofL (digs (width - 1).toNat n.toNat ++ [0]), 0) else (ByteArray.empty, 4)
  else (ByteArray.empty, 4)
theorem set_rep (m : Nat) (c : UInt8) (t : List UInt8) : (List.replicate (m + 1) (0 : UInt8) ++ t).set m c = List.replicate m 0 ++ (c :: t) := by
  rw [List.replicate_succ']
  simp
theorem div_step (m k : Nat) : ((m / 8 ^ k : Nat) : Int) / 8 = ((m / 8 ^ (k + 1) : Nat) : Int) := by
  rw [Nat.pow_succ, ← Nat.div_div_eq_div_mul]; simp
theorem digit_val (x : Nat) : ((48 : Int) + ((x : Nat) : Int) % 8) = ((UInt8.ofNat (48 + x % 8)).toNat : Int) := by
  have : (UInt8.ofNat (48 + x % 8)).toNat = 48 + x % 8 := by simp; omega
  rw [this]; omega
/-- the row after k digits -/
def orow (W k m : Nat) : List UInt8 := List.replicate (W - 1 - k) 0 ++ (digs k m ++ [0])
theorem orow_length (W k m : Nat) (h : k < W) : (orow W k m).length = W := by simp [orow, digs_length]; omega
theorem orow_set {W k m : Nat} (h : k + 1 < W) : (orow W k m).set (W - 2 - k) (UInt8.ofNat (48 + m / 8 ^ k % 8)) = orow W (k + 1) m := by
  have e1 : W - 1 - k = (W - 2 - k) + 1 := by omega
  have e2 : W - 1 - (k + 1) = W - 2 - k := by omega
  unfold orow
  rw [e1, set_rep, e2]
  rfl
theorem orow_zero (W m : Nat) (h : 0 < W) : orow W 0 m = List.replicate W 0 := by
  obtain ⟨k, rfl⟩ : ∃ k, W = k + 1 := ⟨W - 1, by omega⟩
  simp [orow, digs, List.replicate_succ']
theorem orow_all (W m : Nat) (h : 0 < W) : orow W (W - 1) m = digs (W - 1) m ++ [0] := by simp [orow]
theorem digit_text (x : Nat) (h : x < 8) : (ofL [48, 49, 50, 51, 52, 53, 54, 55]).extract x (x + 1) = ofL [UInt8.ofNat (48 + x)] := by
  match x, h with
  | 0, _ | 1, _ | 2, _ | 3, _ | 4, _ | 5, _ | 6, _ | 7, _ => rfl
end Go.Creel
namespace Go.Proofs.YtaffgndickdbiaaGreatDoor
set_option linter.unusedVariables false
open Go.Creel Go.RowKit
theorem info_byte : (Tryz.prog.info? 5).map (fun i => (i.zero, i.size, i.bytes)) = some (some (.int .u8 0), 1, 1) := by kernel_rfl
/-- 'make([]byte, n)' -/
theorem make_bytes (w : World) (n : Nat) (hn : n ≤ 281474976710656) : (Instr.makeSlice 24 (.int .i64 (n : Int)) (.int .i64 (n : Int))).run Tryz.prog w = .ok (.slice (some ⟨w.heap.size, 0, none⟩) n n) (w.alloc (.cells (madeCells #[.int .u8 0] n) 5)) := by
  obtain ⟨i0, hi, hz0, hz1, hz2⟩ := info_parts info_byte
  exact run_make_bytes w _ _ i0 Tryz.underlying24 hi hz0 hz1 hz2 n hn
set_option maxRecDepth 100000 in
set_option maxHeartbeats 1000000 in
theorem OctWrite_in (m W : Nat) (w : World) (h1 : 2 ≤ W) (h2 : W ≤ 12) (hm : m < 8 ^ (W - 1)) :
    Calls Tryz.prog 97 #[.int .i64 m, .int .i64 W] w fun e w' => e = .returned (.tuple #[.string (ofL (digs (W - 1) m ++ [0])), .int .i64 0]) ∧ Below w.heap.size w w' := by
  have hM := octMost_in (W := W) h1 h2
  have hmk := make_bytes w W (by omega)
  have hp : 8 ^ (W - 1) ≤ 8 ^ 11 := Nat.pow_le_pow_right (by decide) (by omega)
  have hml : m ≤ 8589934592 := by have : (8 : Nat) ^ 11 = 8589934592 := by decide
                                  omega
  have HO := Lib.hid (ownB_made (t := 5) w W (by unfold maxLen; omega))
  have HB := Lib.hid ((Below.refl w.heap.size w).alloc (Nat.le_refl _) (.cells (madeCells #[.int .u8 0] W) 5))
  rw [← orow_zero W m (by omega)] at HO
  have HR := Lib.hid (show ((orow W (W - 1) m).length = W) from orow_length W (W-1) m (by omega))
  have hge : ¬ ((m : Int) < 0) := by omega
  generalize hq : 8 ^ (W - 1) = q at *
  have hq1 : q ≤ 8589934592 := by have : (8 : Nat) ^ 11 = 8589934592 := by decide
                                  omega
  clear hp hq
  have hle : ¬ ((q : Int) - 1 < (m : Int)) := by omega
  go_enter Tryz.func97, Tryz.ntmps97
  go_wp2_with fail
  refine (Most_any _ _).mono ?_
  rintro e w' ⟨rfl, rfl⟩
  rw [hM]
  clear hM
  go_wp2_with fail
  generalize World.alloc w _ = w1 at *
  clear hmk
  go_loopw [0, 9] (fun n i wr => ∃ k : Nat, k ≤ W - 1 ∧ i = .int .i64 ((W : Int) - 2 - k) ∧ n = .int .i64 ((m / 8 ^ k : Nat) : Int) ∧ OwnB 5 wr w.heap.size w.heap.size W (orow W k m) ∧ Below w.heap.size w wr) (fun _ i _ => (intOf i + 1).toNat)
  case atStart => exact ⟨0, by omega, by simp, by simp, HO, HB⟩
  case round =>
    obtain ⟨k, hk, rfl, rfl, ho, hb⟩ := hrel
    have hlen := orow_length W k m (by omega)
    have HS := Lib.hid ho
    have HB1 := Lib.hid hb
    clear HO HB
    by_cases hlt : k < W - 1
    · have hc := ho.cell (j := W - 2 - k) (by omega)
      have hf := ho.free (W - 2 - k)
      have hx : ((W : Int) - 2 - k).toNat = W - 2 - k := by omega
      have h0 : (0 : Int) ≤ (W : Int) - 2 - k := by omega
      have hd : m / 8 ^ k ≤ m := Nat.div_le_self _ _
      have HV := Lib.hid (digit_val (m / 8 ^ k))
      have HD := Lib.hid (div_step m k)
      have HO := Lib.hid (fun (n : Int) (hn : n = ((UInt8.ofNat (48 + m / 8 ^ k % 8)).toNat : Int)) => (orow_set (W := W) (k := k) (m := m) (by omega)) ▸ ho.store (W - 2 - k) (UInt8.ofNat (48 + m / 8 ^ k % 8)) (n := n) hn)
      generalize m / 8 ^ k = x at *
      clear ho hb hlen
      go_wp2
      go_roundw
      case rel => exact ⟨k + 1, by omega, by go_num, by rw [← HD.out], HO.out _ HV.out, HB1.out.setCell (Nat.le_refl _) _⟩
      case measure => simp [intOf]; omega
    · obtain rfl : k = W - 1 := by omega
      have hcv := ho.string 24 5 9 Tryz.underlying24 Tryz.underlying5 Tryz.underlying9
      rw [hlen, orow_all W m (by omega)] at hcv
      have hneg : ¬ (0 : Int) ≤ (W : Int) - 2 - ((W - 1 : Nat) : Int) := by omega
      clear ho hlen
      go_wp2
      go_ret2
      exact ⟨rfl, HB1.out⟩
set_option maxRecDepth 100000 in
set_option maxHeartbeats 1000000 in
theorem OctText_in (m W : Nat) (w : World) (h1 : 2 ≤ W) (h2 : W ≤ 12) (hm : m < 8 ^ (W - 1)) :
    Calls Tryz.prog 109 #[.int .i64 m, .int .i64 W] w fun e w' => e = .returned (.tuple #[.string (ofL (digs (W - 1) m ++ [0])), .int .i64 0]) ∧ w = w' := by
  have hM := octMost_in (W := W) h1 h2
  have hp : 8 ^ (W - 1) ≤ 8 ^ 11 := Nat.pow_le_pow_right (by decide) (by omega)
  have hml : m ≤ 8589934592 := by have : (8 : Nat) ^ 11 = 8589934592 := by decide
                                  omega
  have hge : ¬ ((m : Int) < 0) := by omega
  generalize hq : 8 ^ (W - 1) = q at *
  have hq1 : q ≤ 8589934592 := by have : (8 : Nat) ^ 11 = 8589934592 := by decide
                                  omega
  clear hp hq
  have hle : ¬ ((q : Int) - 1 < (m : Int)) := by omega
  go_enter Tryz.func109, Tryz.ntmps109
  go_wp2_with fail
  refine (OctalMost_any _ _).mono ?_
  rintro e w' ⟨rfl, rfl⟩
  rw [hM]
  clear hM
  go_wp2
  go_loop [0, 8] (fun n s => ∃ k : Nat, k ≤ W - 1 ∧ s = .string (ofL (digs k m)) ∧ n = .int .i64 ((m / 8 ^ k : Nat) : Int)) (fun _ s => W - slen s)
  case atStart => exact ⟨0, by omega, rfl, by simp⟩
  case round =>
    obtain ⟨k, hk, rfl, rfl⟩ := hrel
    have hsz : (ofL (digs k m)).size = k := by rw [ofL_size, digs_length]
    have HZ := Lib.hid hsz
    have hz1 : (ofL (digs k m)).size ≤ k := by omega
    have hz2 : k ≤ (ofL (digs k m)).size := by omega
    clear hsz
    by_cases hlt : k < W - 1
    · have hd : m / 8 ^ k ≤ m := Nat.div_le_self _ _
      have HD := Lib.hid (div_step m k)
      have HT := Lib.hid (show ∀ x : Nat, x = m / 8 ^ k → (ofL [48, 49, 50, 51, 52, 53, 54, 55]).extract (x % 8) (x % 8 + 1) ++ ofL (digs k m) = ofL (digs (k + 1) m) by
        intro x hx
        rw [digit_text _ (by omega), ofL_append, hx]; rfl)
      have HW := Lib.hid (show (ofL (digs (k + 1) m)).size = k + 1 by rw [ofL_size, digs_length])
      generalize hx : m / 8 ^ k = x at *
      have HX := Lib.hid hx
      clear hx
      generalize ofL (digs k m) = s at *
      go_wp2
      go_round
      case rel => exact ⟨k + 1, by omega, congrArg Value.string (HT.out x rfl), by rw [← HD.out]⟩
      case measure =>
        have e := HT.out x rfl
        show W - ((ofL [48, 49, 50, 51, 52, 53, 54, 55]).extract (x % 8) (x % 8 + 1) ++ s).size < W - s.size
        rw [e, HW.out]; omega
    · obtain rfl : k = W - 1 := by omega
      go_wp2
      go_ret2
      refine ⟨?_, rfl⟩
      show Ending.returned (.tuple #[.string (ofL (digs (W - 1) m) ++ ofL [0]), .int .i64 0]) = _
      rw [ofL_append]
set_option maxRecDepth 100000 in
set_option maxHeartbeats 1000000 in
theorem OctWrite_any (n W : Int) (w : World) :
    Calls Tryz.prog 97 #[.int .i64 n, .int .i64 W] w fun e w' => e = .returned (.tuple #[.string (octText n W).1, .int .i64 (octText n W).2]) ∧ Below w.heap.size w w' := by
  by_cases hW : 2 ≤ W ∧ W ≤ 12
  · obtain ⟨V, rfl⟩ : ∃ V : Nat, W = (V : Int) := ⟨W.toNat, by omega⟩
    have hV : ((V : Int) - 1).toNat = V - 1 := by omega
    by_cases hn : 0 ≤ n ∧ n ≤ 8 ^ (V - 1) - 1
    · obtain ⟨m, rfl⟩ : ∃ m : Nat, n = (m : Int) := ⟨n.toNat, by omega⟩
      have hm : m < 8 ^ (V - 1) := by
        have h8 : ((8 ^ (V - 1) : Nat) : Int) = 8 ^ (V - 1) := by simp
        omega
      refine (OctWrite_in m V w (by omega) (by omega) hm).mono ?_
      rintro e w' ⟨rfl, h⟩
      refine ⟨ret_si ?_, h⟩
      simp only [octText, hV]
      rw [if_pos hW, if_pos hn, Int.toNat_natCast]
    · have HF := Lib.hid (show octText n V = (ByteArray.empty, 4) by simp only [octText, hV]; rw [if_pos hW, if_neg hn])
      have hM := octMost_in (W := V) (by omega) (by omega)
      have h8 : ((8 ^ (V - 1) : Nat) : Int) = 8 ^ (V - 1) := by simp
      rw [← h8] at hn
      have hp1 : 8 ^ (V - 1) ≤ 8 ^ 11 := Nat.pow_le_pow_right (by decide) (by omega)
      clear h8
      generalize 8 ^ (V - 1) = q at *
      by_cases h0 : n < 0
      · have hd : decide (n < 0) = true := by simpa using h0
        go_enter Tryz.func97, Tryz.ntmps97
        go_wp2_with fail
        refine (Most_any _ _).mono ?_
        rintro e w' ⟨rfl, rfl⟩
        rw [hM]
        clear hM
        go_wp2
        go_ret2
        exact ⟨ret_si HF.out, Below.refl _ _⟩
      · have hgt : (q : Int) - 1 < n := by omega
        go_enter Tryz.func97, Tryz.ntmps97
        go_wp2_with fail
        refine (Most_any _ _).mono ?_
        rintro e w' ⟨rfl, rfl⟩
        rw [hM]
        clear hM hn
        go_wp2
        go_ret2
        exact ⟨ret_si HF.out, Below.refl _ _⟩
  · have HF := Lib.hid (show octText n W = (ByteArray.empty, 4) by simp only [octText]; rw [if_neg hW])
    have hM : octMost W = (0, 4) := by simp only [octMost]; rw [if_neg hW]
    go_enter Tryz.func97, Tryz.ntmps97
    go_wp2_with fail
    refine (Most_any _ _).mono ?_
    rintro e w' ⟨rfl, rfl⟩
    rw [hM]
    clear hM hW
    go_wp2
    go_ret2
    exact ⟨ret_si HF.out, Below.refl _ _⟩
set_option maxRecDepth 100000 in
set_option maxHeartbeats 1000000 in
theorem OctText_any (n W : Int) (w : World) :
    Calls Tryz.prog 109 #[.int .i64 n, .int .i64 W] w fun e w' => e = .returned (.tuple #[.string (octText n W).1, .int .i64 (octText n W).2]) ∧ w = w' := by
  by_cases hW : 2 ≤ W ∧ W ≤ 12
  · obtain ⟨V, rfl⟩ : ∃ V : Nat, W = (V : Int) := ⟨W.toNat, by omega⟩
    have hV : ((V : Int) - 1).toNat = V - 1 := by omega
    by_cases hn : 0 ≤ n ∧ n ≤ 8 ^ (V - 1) - 1
    · obtain ⟨m, rfl⟩ : ∃ m : Nat, n = (m : Int) := ⟨n.toNat, by omega⟩
      have hm : m < 8 ^ (V - 1) := by
        have h8 : ((8 ^ (V - 1) : Nat) : Int) = 8 ^ (V - 1) := by simp
        omega
      refine (OctText_in m V w (by omega) (by omega) hm).mono ?_
      rintro e w' ⟨rfl, h⟩
      refine ⟨ret_si ?_, h⟩
      simp only [octText, hV]
      rw [if_pos hW, if_pos hn, Int.toNat_natCast]
    · have HF := Lib.hid (show octText n V = (ByteArray.empty, 4) by simp only [octText, hV]; rw [if_pos hW, if_neg hn])
      have hM := octMost_in (W := V) (by omega) (by omega)
      have h8 : ((8 ^ (V - 1) : Nat) : Int) = 8 ^ (V - 1) := by simp
      rw [← h8] at hn
      have hp1 : 8 ^ (V - 1) ≤ 8 ^ 11 := Nat.pow_le_pow_right (by decide) (by omega)
      clear h8
      generalize 8 ^ (V - 1) = q at *
      by_cases h0 : n < 0
      · have hd : decide (n < 0) = true := by simpa using h0
        go_enter Tryz.func109, Tryz.ntmps109
        go_wp2_with fail
        refine (OctalMost_any _ _).mono ?_
        rintro e w' ⟨rfl, rfl⟩
        rw [hM]
        clear hM
        go_wp2
        go_ret2
        exact ⟨ret_si HF.out, rfl⟩
      · have hgt : (q : Int) - 1 < n := by omega
        go_enter Tryz.func109, Tryz.ntmps109
        go_wp2_with fail
        refine (OctalMost_any _ _).mono ?_
        rintro e w' ⟨rfl, rfl⟩
        rw [hM]
        clear hM hn
        go_wp2
        go_ret2
        exact ⟨ret_si HF.out, rfl⟩
  · have HF := Lib.hid (show octText n W = (ByteArray.empty, 4) by simp only [octText]; rw [if_neg hW])
    have hM : octMost W = (0, 4) := by simp only [octMost]; rw [if_neg hW]
    go_enter Tryz.func109, Tryz.ntmps109
    go_wp2_with fail
    refine (OctalMost_any _ _).mono ?_
    rintro e w' ⟨rfl, rfl⟩
    rw [hM]
    clear hM hW
    go_wp2
    go_ret2
    exact ⟨ret_si HF.out, rfl⟩
end Go.Proofs.YtaffgndickdbiaaGreatDoor
