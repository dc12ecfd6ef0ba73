/-
  Texts: Octal, HeadSum, HeadSpec, Rune, IndexAny.
-/
import Derived.Test.YtaffgndickdbiaaGreatDoorU08
import Derived.Laws.RangeAny
import Derived.Laws.Runes
import Derived.WalkMore
import Derived.Scope
import Derived.Deep.LoopGhost
import Derived.Lib.OthersKept
import Derived.StillTailTactics
set_option linter.unusedVariables false
set_option linter.unusedSimpArgs false
set_option linter.unusedSectionVars false
namespace Go.Creel
def digs : Nat → Nat → List UInt8
  | 0, _ => []
  | k + 1, n => UInt8.ofNat (48 + n / 8 ^ k % 8) :: digs k n
theorem digs_length (k n : Nat) : (digs k n).length = k := by
  induction k with
  | zero => rfl
  | succ k ih => simp [digs, ih]
def octText (n width : Int) : ByteArray × Int :=
  if 2 ≤ width ∧ width ≤ 12 then
    if 0 ≤ n ∧ n ≤ 8 ^ (width - 1).toNat - 1 then (ofL (digs (width - 1).toNat n.toNat ++ [0]), 0) else (ByteArray.empty, 4)
  else (ByteArray.empty, 4)
theorem set_rep (m : Nat) (c : UInt8) (t : List UInt8) : (List.replicate (m + 1) (0 : UInt8) ++ t).set m c = List.replicate m 0 ++ (c :: t) := by
  rw [List.replicate_succ']
  simp
theorem div_step (m k : Nat) : ((m / 8 ^ k : Nat) : Int) / 8 = ((m / 8 ^ (k + 1) : Nat) : Int) := by
  rw [Nat.pow_succ, ← Nat.div_div_eq_div_mul]; simp
theorem digit_val (x : Nat) : ((48 : Int) + ((x : Nat) : Int) % 8) = ((UInt8.ofNat (48 + x % 8)).toNat : Int) := by
  have : (UInt8.ofNat (48 + x % 8)).toNat = 48 + x % 8 := by simp; omega
  rw [this]; omega
def orow (W k m : Nat) : List UInt8 := List.replicate (W - 1 - k) 0 ++ (digs k m ++ [0])
theorem orow_length (W k m : Nat) (h : k < W) : (orow W k m).length = W := by simp [orow, digs_length]; omega
theorem orow_set {W k m : Nat} (h : k + 1 < W) : (orow W k m).set (W - 2 - k) (UInt8.ofNat (48 + m / 8 ^ k % 8)) = orow W (k + 1) m := by
  have e1 : W - 1 - k = (W - 2 - k) + 1 := by omega
  have e2 : W - 1 - (k + 1) = W - 2 - k := by omega
  unfold orow
  rw [e1, set_rep, e2]
  rfl
theorem orow_zero (W m : Nat) (h : 0 < W) : orow W 0 m = List.replicate W 0 := by
  obtain ⟨k, rfl⟩ : ∃ k, W = k + 1 := ⟨W - 1, by omega⟩
  simp [orow, digs, List.replicate_succ']
theorem orow_all (W m : Nat) (h : 0 < W) : orow W (W - 1) m = digs (W - 1) m ++ [0] := by simp [orow]
theorem digit_text (x : Nat) (h : x < 8) : (ofL [48, 49, 50, 51, 52, 53, 54, 55]).extract x (x + 1) = ofL [UInt8.ofNat (48 + x)] := by
  match x, h with
  | 0, _ | 1, _ | 2, _ | 3, _ | 4, _ | 5, _ | 6, _ | 7, _ => rfl
end Go.Creel
namespace Go.Proofs.YtaffgndickdbiaaGreatDoor
open Go.Creel Go.RowKit
theorem info_byte : (Tryz.prog.info? 5).map (fun i => (i.zero, i.size, i.bytes)) = some (some (.int .u8 0), 1, 1) := by kernel_rfl
theorem make_bytes (w : World) (n : Nat) (hn : n ≤ 281474976710656) : (Instr.makeSlice 24 (.int .i64 (n : Int)) (.int .i64 (n : Int))).run Tryz.prog w = .ok (.slice (some ⟨w.heap.size, 0, none⟩) n n) (w.alloc (.cells (madeCells #[.int .u8 0] n) 5)) := by
  obtain ⟨i0, hi, hz0, hz1, hz2⟩ := info_parts info_byte
  exact run_make_bytes w _ _ i0 Tryz.underlying24 hi hz0 hz1 hz2 n hn
set_option maxRecDepth 100000 in
set_option maxHeartbeats 1000000 in
theorem OctWrite_in (m W : Nat) (w : World) (h1 : 2 ≤ W) (h2 : W ≤ 12) (hm : m < 8 ^ (W - 1)) :
    Calls Tryz.prog 97 #[.int .i64 m, .int .i64 W] w fun e w' => e = .returned (.tuple #[.string (ofL (digs (W - 1) m ++ [0])), .int .i64 0]) ∧ Below w.heap.size w w' := by
  have hM := octMost_in (W := W) h1 h2
  have hmk := make_bytes w W (by omega)
  have hp : 8 ^ (W - 1) ≤ 8 ^ 11 := Nat.pow_le_pow_right (by decide) (by omega)
  have hml : m ≤ 8589934592 := by have : (8 : Nat) ^ 11 = 8589934592 := by decide
                                  omega
  have HO := Lib.hid (ownB_made (t := 5) w W (by unfold maxLen; omega))
  have HB := Lib.hid ((Below.refl w.heap.size w).alloc (Nat.le_refl _) (.cells (madeCells #[.int .u8 0] W) 5))
  rw [← orow_zero W m (by omega)] at HO
  have HR := Lib.hid (show ((orow W (W - 1) m).length = W) from orow_length W (W-1) m (by omega))
  have hge : ¬ ((m : Int) < 0) := by omega
  generalize hq : 8 ^ (W - 1) = q at *
  have hq1 : q ≤ 8589934592 := by have : (8 : Nat) ^ 11 = 8589934592 := by decide
                                  omega
  clear hp hq
  have hle : ¬ ((q : Int) - 1 < (m : Int)) := by omega
  go_enter Tryz.func97, Tryz.ntmps97
  go_wp2_with fail
  refine (Most_any _ _).mono ?_
  rintro e w' ⟨rfl, rfl⟩
  rw [hM]
  clear hM
  go_wp2_with fail
  generalize World.alloc w _ = w1 at *
  clear hmk
  go_loopw [0, 9] (fun n i wr => ∃ k : Nat, k ≤ W - 1 ∧ i = .int .i64 ((W : Int) - 2 - k) ∧ n = .int .i64 ((m / 8 ^ k : Nat) : Int) ∧ OwnB 5 wr w.heap.size w.heap.size W (orow W k m) ∧ Below w.heap.size w wr) (fun _ i _ => (intOf i + 1).toNat)
  case atStart => exact ⟨0, by omega, by simp, by simp, HO, HB⟩
  case round =>
    obtain ⟨k, hk, rfl, rfl, ho, hb⟩ := hrel
    have hlen := orow_length W k m (by omega)
    have HS := Lib.hid ho
    have HB1 := Lib.hid hb
    clear HO HB
    by_cases hlt : k < W - 1
    · have hc := ho.cell (j := W - 2 - k) (by omega)
      have hf := ho.free (W - 2 - k)
      have hx : ((W : Int) - 2 - k).toNat = W - 2 - k := by omega
      have h0 : (0 : Int) ≤ (W : Int) - 2 - k := by omega
      have hd : m / 8 ^ k ≤ m := Nat.div_le_self _ _
      have HV := Lib.hid (digit_val (m / 8 ^ k))
      have HD := Lib.hid (div_step m k)
      have HO := Lib.hid (fun (n : Int) (hn : n = ((UInt8.ofNat (48 + m / 8 ^ k % 8)).toNat : Int)) => (orow_set (W := W) (k := k) (m := m) (by omega)) ▸ ho.store (W - 2 - k) (UInt8.ofNat (48 + m / 8 ^ k % 8)) (n := n) hn)
      generalize m / 8 ^ k = x at *
      clear ho hb hlen
      go_wp2
      go_roundw
      case rel => exact ⟨k + 1, by omega, by go_num, by rw [← HD.out], HO.out _ HV.out, HB1.out.setCell (Nat.le_refl _) _⟩
      case measure => simp [intOf]; omega
    · obtain rfl : k = W - 1 := by omega
      have hcv := ho.string 24 5 9 Tryz.underlying24 Tryz.underlying5 Tryz.underlying9
      rw [hlen, orow_all W m (by omega)] at hcv
      have hneg : ¬ (0 : Int) ≤ (W : Int) - 2 - ((W - 1 : Nat) : Int) := by omega
      clear ho hlen
      go_wp2
      go_ret2
      exact ⟨rfl, HB1.out⟩
set_option maxRecDepth 100000 in
set_option maxHeartbeats 1000000 in
theorem OctText_in (m W : Nat) (w : World) (h1 : 2 ≤ W) (h2 : W ≤ 12) (hm : m < 8 ^ (W - 1)) :
    Calls Tryz.prog 109 #[.int .i64 m, .int .i64 W] w fun e w' => e = .returned (.tuple #[.string (ofL (digs (W - 1) m ++ [0])), .int .i64 0]) ∧ w = w' := by
  have hM := octMost_in (W := W) h1 h2
  have hp : 8 ^ (W - 1) ≤ 8 ^ 11 := Nat.pow_le_pow_right (by decide) (by omega)
  have hml : m ≤ 8589934592 := by have : (8 : Nat) ^ 11 = 8589934592 := by decide
                                  omega
  have hge : ¬ ((m : Int) < 0) := by omega
  generalize hq : 8 ^ (W - 1) = q at *
  have hq1 : q ≤ 8589934592 := by have : (8 : Nat) ^ 11 = 8589934592 := by decide
                                  omega
  clear hp hq
  have hle : ¬ ((q : Int) - 1 < (m : Int)) := by omega
  go_enter Tryz.func109, Tryz.ntmps109
  go_wp2_with fail
  refine (OctalMost_any _ _).mono ?_
  rintro e w' ⟨rfl, rfl⟩
  rw [hM]
  clear hM
  go_wp2
  go_loop [0, 8] (fun n s => ∃ k : Nat, k ≤ W - 1 ∧ s = .string (ofL (digs k m)) ∧ n = .int .i64 ((m / 8 ^ k : Nat) : Int)) (fun _ s => W - slen s)
  case atStart => exact ⟨0, by omega, rfl, by simp⟩
  case round =>
    obtain ⟨k, hk, rfl, rfl⟩ := hrel
    have hsz : (ofL (digs k m)).size = k := by rw [ofL_size, digs_length]
    have HZ := Lib.hid hsz
    have hz1 : (ofL (digs k m)).size ≤ k := by omega
    have hz2 : k ≤ (ofL (digs k m)).size := by omega
    clear hsz
    by_cases hlt : k < W - 1
    · have hd : m / 8 ^ k ≤ m := Nat.div_le_self _ _
      have HD := Lib.hid (div_step m k)
      have HT := Lib.hid (show ∀ x : Nat, x = m / 8 ^ k → (ofL [48, 49, 50, 51, 52, 53, 54, 55]).extract (x % 8) (x % 8 + 1) ++ ofL (digs k m) = ofL (digs (k + 1) m) by
        intro x hx
        rw [digit_text _ (by omega), ofL_append, hx]; rfl)
      have HW := Lib.hid (show (ofL (digs (k + 1) m)).size = k + 1 by rw [ofL_size, digs_length])
      generalize hx : m / 8 ^ k = x at *
      have HX := Lib.hid hx
      clear hx
      generalize ofL (digs k m) = s at *
      go_wp2
      go_round
      case rel => exact ⟨k + 1, by omega, congrArg Value.string (HT.out x rfl), by rw [← HD.out]⟩
      case measure =>
        have e := HT.out x rfl
        show W - ((ofL [48, 49, 50, 51, 52, 53, 54, 55]).extract (x % 8) (x % 8 + 1) ++ s).size < W - s.size
        rw [e, HW.out]; omega
    · obtain rfl : k = W - 1 := by omega
      go_wp2
      go_ret2
      refine ⟨?_, rfl⟩
      show Ending.returned (.tuple #[.string (ofL (digs (W - 1) m) ++ ofL [0]), .int .i64 0]) = _
      rw [ofL_append]
set_option maxRecDepth 100000 in
set_option maxHeartbeats 1000000 in
theorem OctWrite_any (n W : Int) (w : World) :
    Calls Tryz.prog 97 #[.int .i64 n, .int .i64 W] w fun e w' => e = .returned (.tuple #[.string (octText n W).1, .int .i64 (octText n W).2]) ∧ Below w.heap.size w w' := by
  by_cases hW : 2 ≤ W ∧ W ≤ 12
  · obtain ⟨V, rfl⟩ : ∃ V : Nat, W = (V : Int) := ⟨W.toNat, by omega⟩
    have hV : ((V : Int) - 1).toNat = V - 1 := by omega
    by_cases hn : 0 ≤ n ∧ n ≤ 8 ^ (V - 1) - 1
    · obtain ⟨m, rfl⟩ : ∃ m : Nat, n = (m : Int) := ⟨n.toNat, by omega⟩
      have hm : m < 8 ^ (V - 1) := by
        have h8 : ((8 ^ (V - 1) : Nat) : Int) = 8 ^ (V - 1) := by simp
        omega
      refine (OctWrite_in m V w (by omega) (by omega) hm).mono ?_
      rintro e w' ⟨rfl, h⟩
      refine ⟨ret_si ?_, h⟩
      simp only [octText, hV]
      rw [if_pos hW, if_pos hn, Int.toNat_natCast]
    · have HF := Lib.hid (show octText n V = (ByteArray.empty, 4) by simp only [octText, hV]; rw [if_pos hW, if_neg hn])
      have hM := octMost_in (W := V) (by omega) (by omega)
      have h8 : ((8 ^ (V - 1) : Nat) : Int) = 8 ^ (V - 1) := by simp
      rw [← h8] at hn
      have hp1 : 8 ^ (V - 1) ≤ 8 ^ 11 := Nat.pow_le_pow_right (by decide) (by omega)
      clear h8
      generalize 8 ^ (V - 1) = q at *
      by_cases h0 : n < 0
      · have hd : decide (n < 0) = true := by simpa using h0
        go_enter Tryz.func97, Tryz.ntmps97
        go_wp2_with fail
        refine (Most_any _ _).mono ?_
        rintro e w' ⟨rfl, rfl⟩
        rw [hM]
        clear hM
        go_wp2
        go_ret2
        exact ⟨ret_si HF.out, Below.refl _ _⟩
      · have hgt : (q : Int) - 1 < n := by omega
        go_enter Tryz.func97, Tryz.ntmps97
        go_wp2_with fail
        refine (Most_any _ _).mono ?_
        rintro e w' ⟨rfl, rfl⟩
        rw [hM]
        clear hM hn
        go_wp2
        go_ret2
        exact ⟨ret_si HF.out, Below.refl _ _⟩
  · have HF := Lib.hid (show octText n W = (ByteArray.empty, 4) by simp only [octText]; rw [if_neg hW])
    have hM : octMost W = (0, 4) := by simp only [octMost]; rw [if_neg hW]
    go_enter Tryz.func97, Tryz.ntmps97
    go_wp2_with fail
    refine (Most_any _ _).mono ?_
    rintro e w' ⟨rfl, rfl⟩
    rw [hM]
    clear hM hW
    go_wp2
    go_ret2
    exact ⟨ret_si HF.out, Below.refl _ _⟩
set_option maxRecDepth 100000 in
set_option maxHeartbeats 1000000 in
theorem OctText_any (n W : Int) (w : World) :
    Calls Tryz.prog 109 #[.int .i64 n, .int .i64 W] w fun e w' => e = .returned (.tuple #[.string (octText n W).1, .int .i64 (octText n W).2]) ∧ w = w' := by
  by_cases hW : 2 ≤ W ∧ W ≤ 12
  · obtain ⟨V, rfl⟩ : ∃ V : Nat, W = (V : Int) := ⟨W.toNat, by omega⟩
    have hV : ((V : Int) - 1).toNat = V - 1 := by omega
    by_cases hn : 0 ≤ n ∧ n ≤ 8 ^ (V - 1) - 1
    · obtain ⟨m, rfl⟩ : ∃ m : Nat, n = (m : Int) := ⟨n.toNat, by omega⟩
      have hm : m < 8 ^ (V - 1) := by
        have h8 : ((8 ^ (V - 1) : Nat) : Int) = 8 ^ (V - 1) := by simp
        omega
      refine (OctText_in m V w (by omega) (by omega) hm).mono ?_
      rintro e w' ⟨rfl, h⟩
      refine ⟨ret_si ?_, h⟩
      simp only [octText, hV]
      rw [if_pos hW, if_pos hn, Int.toNat_natCast]
    · have HF := Lib.hid (show octText n V = (ByteArray.empty, 4) by simp only [octText, hV]; rw [if_pos hW, if_neg hn])
      have hM := octMost_in (W := V) (by omega) (by omega)
      have h8 : ((8 ^ (V - 1) : Nat) : Int) = 8 ^ (V - 1) := by simp
      rw [← h8] at hn
      have hp1 : 8 ^ (V - 1) ≤ 8 ^ 11 := Nat.pow_le_pow_right (by decide) (by omega)
      clear h8
      generalize 8 ^ (V - 1) = q at *
      by_cases h0 : n < 0
      · have hd : decide (n < 0) = true := by simpa using h0
        go_enter Tryz.func109, Tryz.ntmps109
        go_wp2_with fail
        refine (OctalMost_any _ _).mono ?_
        rintro e w' ⟨rfl, rfl⟩
        rw [hM]
        clear hM
        go_wp2
        go_ret2
        exact ⟨ret_si HF.out, rfl⟩
      · have hgt : (q : Int) - 1 < n := by omega
        go_enter Tryz.func109, Tryz.ntmps109
        go_wp2_with fail
        refine (OctalMost_any _ _).mono ?_
        rintro e w' ⟨rfl, rfl⟩
        rw [hM]
        clear hM hn
        go_wp2
        go_ret2
        exact ⟨ret_si HF.out, rfl⟩
  · have HF := Lib.hid (show octText n W = (ByteArray.empty, 4) by simp only [octText]; rw [if_neg hW])
    have hM : octMost W = (0, 4) := by simp only [octMost]; rw [if_neg hW]
    go_enter Tryz.func109, Tryz.ntmps109
    go_wp2_with fail
    refine (OctalMost_any _ _).mono ?_
    rintro e w' ⟨rfl, rfl⟩
    rw [hM]
    clear hM hW
    go_wp2
    go_ret2
    exact ⟨ret_si HF.out, rfl⟩
end Go.Proofs.YtaffgndickdbiaaGreatDoor
namespace Go.Creel
open Go.RowKit
def hsum (s : ByteArray) : Nat → Int
  | 0 => 0
  | k + 1 => hsum s k + (if 148 ≤ k ∧ k < 156 then 32 else byt s k)
theorem hsum_bd (s : ByteArray) (k : Nat) : 0 ≤ hsum s k ∧ hsum s k ≤ 255 * k := by
  induction k with
  | zero => simp [hsum]
  | succ k ih =>
    have := byt_lt s k
    simp only [hsum]; split <;> omega
def psum (s : ByteArray) : Nat → Int
  | 0 => 256
  | k + 1 => psum s k + (if 148 ≤ k ∧ k < 156 then 0 else byt s k)
theorem psum_bd (s : ByteArray) (k : Nat) : 0 ≤ psum s k ∧ psum s k ≤ 256 + 255 * k := by
  induction k with
  | zero => simp [psum]
  | succ k ih =>
    have := byt_lt s k
    simp only [psum]; split <;> omega
theorem psum_hsum (s : ByteArray) (k : Nat) : psum s k = hsum s k + 256 - 32 * (if k < 148 then 0 else if k < 156 then (k : Int) - 148 else 8) := by
  induction k with
  | zero => simp [psum, hsum]
  | succ k ih =>
    simp only [psum, hsum, ih]
    repeat' split
    all_goals omega
theorem psum_all (s : ByteArray) : psum s 512 = hsum s 512 := by rw [psum_hsum]; simp
def headSum (s : ByteArray) : Int × Int := if s.size = 512 then (hsum s 512, 0) else (0, 1)
theorem headSum_bd {s : ByteArray} (h : s.size = 512) : 0 ≤ (headSum s).1 ∧ (headSum s).1 ≤ 130560 := by
  unfold headSum
  rw [if_pos h]
  have := hsum_bd s 512
  exact ⟨this.1, by have := this.2; simpa using this⟩
end Go.Creel
namespace Go.Proofs.YtaffgndickdbiaaGreatDoor
open Go.Creel Go.RowKit
set_option maxRecDepth 100000 in
set_option maxHeartbeats 400000 in
theorem HeadSum_any (s : ByteArray) (w : World) (hs : s.size ≤ maxLen) :
    Calls Tryz.prog 110 #[.string s] w fun e w' => e = .returned (.tuple #[.int .i64 (headSum s).1, .int .i64 (headSum s).2]) ∧ w = w' := by
  unfold maxLen at hs
  by_cases h : s.size = 512
  · have HF := Lib.hid (show headSum s = (hsum s 512, 0) by simp [headSum, h])
    have h1 : ((s.size : Int) != 512) = false := by simp [h]
    have H := Lib.hid h
    clear h
    go_enter Tryz.func110, Tryz.ntmps110
    go_wp2
    go_loop [4, 5] (fun n i => ∃ k : Nat, k ≤ 512 ∧ i = .int .i64 k ∧ n = .int .i64 (hsum s k)) (fun _ i => 512 - (intOf i).toNat)
    case atStart => exact ⟨0, by omega, rfl, rfl⟩
    case round =>
      obtain ⟨k, hk, rfl, rfl⟩ := hrel
      have hd := hsum_bd s k
      by_cases hlt : k < 512
      · have hks : k < s.size := by rw [H.out]; exact hlt
        have hb := byt_lt s k
        have HB := Lib.hid (byt_get s k hks)
        have HS := Lib.hid (show hsum s (k+1) = hsum s k + (if 148 ≤ k ∧ k < 156 then 32 else byt s k) from rfl)
        have hb' : s[k].toNat < 256 := UInt8.toNat_lt _
        go_wp2
        all_goals go_round
        all_goals first
          | (case rel => exact ⟨k + 1, by omega, by go_num, by rw [HS.out]; first | (rw [if_pos (by omega)]; rfl) | rw [if_neg (by omega), ← HB.out]⟩)
          | (case measure => simp [intOf]; omega)
      · have hk : k = 512 := by omega
        subst hk
        go_wp2
        go_ret2
        exact ⟨ret_ii HF.out, rfl⟩
  · have HF := Lib.hid (show headSum s = (0, 1) by simp [headSum, h])
    have h1 : ((s.size : Int) != 512) = true := by simp; omega
    go_enter Tryz.func110, Tryz.ntmps110
    go_wp2
    go_ret2
    exact ⟨ret_ii HF.out, rfl⟩
set_option maxRecDepth 100000 in
set_option maxHeartbeats 400000 in
theorem Sum_any (s : ByteArray) (w : World) (hs : s.size ≤ maxLen) :
    Calls Tryz.prog 99 #[.string s] w fun e w' => e = .returned (.tuple #[.int .i64 (headSum s).1, .int .i64 (headSum s).2]) ∧ w = w' := by
  unfold maxLen at hs
  by_cases h : s.size = 512
  · have HF := Lib.hid (show headSum s = (hsum s 512, 0) by simp [headSum, h])
    have h1 : ((s.size : Int) != 512) = false := by simp [h]
    have h2 : s.size < 513 := by omega
    have h3 : 512 ≤ s.size := by omega
    clear h
    go_enter Tryz.func99, Tryz.ntmps99
    go_wp2
    go_loop [4, 5, 11] (fun n _ i => ∃ k : Nat, k ≤ 512 ∧ i = .int .i64 k ∧ n = .int .i64 (psum s k)) (fun _ _ i => 512 - (intOf i).toNat)
    case atStart => exact ⟨0, by omega, rfl, rfl⟩
    case round =>
      obtain ⟨k, hk, rfl, rfl⟩ := hrel
      have hd := psum_bd s k
      by_cases hlt : k < 512
      · have hks : k < s.size := by omega
        have hb := byt_lt s k
        have HB := Lib.hid (byt_get s k hks)
        have HS := Lib.hid (show psum s (k+1) = psum s k + (if 148 ≤ k ∧ k < 156 then 0 else byt s k) from rfl)
        have hb' : s[k].toNat < 256 := UInt8.toNat_lt _
        go_wp2
        all_goals go_round
        all_goals first
          | (case rel => exact ⟨k + 1, by omega, by go_num, by rw [HS.out]; first | (rw [if_pos (by omega)]; simp) | rw [if_neg (by omega), ← HB.out]⟩)
          | (case measure => simp [intOf]; omega)
      · have hk : k = 512 := by omega
        subst hk
        go_wp2
        go_ret2
        exact ⟨ret_ii (by rw [HF.out, psum_all]), rfl⟩
  · have HF := Lib.hid (show headSum s = (0, 1) by simp [headSum, h])
    have h1 : ((s.size : Int) != 512) = true := by simp; omega
    go_enter Tryz.func99, Tryz.ntmps99
    go_wp2
    go_ret2
    exact ⟨ret_ii HF.out, rfl⟩
end Go.Proofs.YtaffgndickdbiaaGreatDoor
namespace Go.Creel
open Go.RowKit
theorem fieldText_le (s : ByteArray) (width : Int) (whole : Bool) : (fieldText s width whole).1.size ≤ 512 := by
  unfold fieldText
  split
  · simp
  · split
    · simp
    · split
      · simp
      · simp only [ByteArray.size_append, zerosS_size]
        omega
theorem fieldText_size (s : ByteArray) (width : Int) (k : Nat) (hk : width = k) (whole : Bool) (h : (fieldText s width whole).2 = 0) : (fieldText s width whole).1.size = k := by
  subst hk
  unfold fieldText at h ⊢
  split
  · rename_i h1; rw [if_pos h1] at h; cases h
  · rename_i h1
    rw [if_neg h1] at h
    split
    · rename_i h2; rw [if_pos h2] at h; cases h
    · rename_i h2
      rw [if_neg h2] at h
      split
      · rename_i h3; rw [if_pos h3] at h; cases h
      · simp only [ByteArray.size_append, zerosS_size]
        omega
theorem octText_le (n width : Int) : (octText n width).1.size ≤ 512 := by
  unfold octText
  split
  · split
    · rw [ofL_size]; simp [digs_length]; omega
    · simp
  · simp
theorem octText_size (n : Int) (width : Int) (k : Nat) (hk : width = k) (h : (octText n width).2 = 0) : (octText n width).1.size = k := by
  subst hk
  unfold octText at h ⊢
  split
  · rename_i h1
    rw [if_pos h1] at h
    split
    · rw [ofL_size]; simp [digs_length]; omega
    · rename_i h2; rw [if_neg h2] at h; cases h
  · rename_i h1; rw [if_neg h1] at h; cases h
abbrev Pen := ByteArray × Int
def penPut (p x : Pen) : Pen := if p.2 = 0 then (p.1 ++ x.1, x.2) else p
def refPut (p x : Pen) : Pen := (p.1 ++ x.1, if p.2 = 0 then x.2 else p.2)
theorem penPut_ok {p x : Pen} (h : p.2 = 0) : penPut p x = (p.1 ++ x.1, x.2) := if_pos h
theorem penPut_bad {p x : Pen} (h : ¬ p.2 = 0) : penPut p x = p := if_neg h
def penAll (l : List Pen) : Pen := l.foldl penPut (ByteArray.empty, 0)
def refAll (l : List Pen) : Pen := l.foldl refPut (ByteArray.empty, 0)
def PenLike (p q : Pen) : Prop := p.2 = q.2 ∧ (p.2 = 0 → p.1 = q.1)
theorem PenLike.put {p q : Pen} (h : PenLike p q) (x : Pen) : PenLike (penPut p x) (refPut q x) := by
  obtain ⟨h1, h2⟩ := h
  by_cases h0 : p.2 = 0
  · rw [penPut_ok h0]
    have h3 := h2 h0
    unfold refPut PenLike
    rw [if_pos (by rw [← h1]; exact h0), h3]
    exact ⟨rfl, fun _ => rfl⟩
  · rw [penPut_bad h0]
    unfold refPut PenLike
    rw [if_neg (by rw [← h1]; exact h0)]
    exact ⟨h1, fun h => absurd h h0⟩
theorem PenLike.puts {p q : Pen} (h : PenLike p q) (l : List Pen) : PenLike (l.foldl penPut p) (l.foldl refPut q) := by
  induction l generalizing p q with
  | nil => exact h
  | cons x l ih => exact ih (h.put x)
theorem pen_ref (l : List Pen) : PenLike (penAll l) (refAll l) := PenLike.puts ⟨rfl, fun _ => rfl⟩ l
theorem penPut_size (p x : Pen) : (penPut p x).1.size ≤ p.1.size + x.1.size := by
  unfold penPut
  split
  · simp
  · omega
theorem penPut_le {p x : Pen} {n : Nat} (h : p.1.size ≤ n) (hx : x.1.size ≤ 512) : (penPut p x).1.size ≤ n + 512 := Nat.le_trans (penPut_size p x) (by omega)
theorem refPut_le {p x : Pen} {n : Nat} (h : p.1.size ≤ n) (hx : x.1.size ≤ 512) : (refPut p x).1.size ≤ n + 512 := by
  unfold refPut
  simp only [ByteArray.size_append]
  omega
theorem refPut_size {p x : Pen} {n k : Nat} (h : p.2 = 0 → p.1.size = n) (hx : x.2 = 0 → x.1.size = k) : (refPut p x).2 = 0 → (refPut p x).1.size = n + k := by
  unfold refPut
  intro h0
  simp only [ByteArray.size_append]
  by_cases hp : p.2 = 0
  · rw [if_pos hp] at h0
    rw [h hp, hx h0]
  · rw [if_neg hp] at h0
    exact absurd h0 hp
def eightB : List UInt8 := [32, 32, 32, 32, 32, 32, 32, 32]
def ustarB : List UInt8 := [117, 115, 116, 97, 114, 0, 48, 48]
def zero8B : List UInt8 := [48, 48, 48, 48, 48, 48, 48, 0]
def pNum (n : HeadN) : List Pen := [fieldText n.nm 100 true, octText n.mode 8, octText n.uid 8, octText n.gid 8, octText n.size 12, octText n.time 12]
def pRest (n : HeadN) : List Pen := [(ofL (eightB ++ [n.typ]), 0), fieldText n.lk 100 true, (ofL ustarB, 0), fieldText n.user 32 false, fieldText n.group 32 false]
def pEnd (n : HeadN) : List Pen := [fieldText n.px 155 true, (zerosS 12, 0)]
def headPen (n : HeadN) : Pen := penAll (pNum n ++ pRest n ++ [(ofL (zero8B ++ zero8B), 0)] ++ pEnd n)
def headRef (n : HeadN) : Pen := refAll (pNum n ++ pRest n ++ [(ofL zero8B, 0), (ofL zero8B, 0)] ++ pEnd n)
theorem refPut_two (p : Pen) (a b : ByteArray) : refPut (refPut p (a, 0)) (b, 0) = refPut p (a ++ b, 0) := by
  unfold refPut
  simp only [ByteArray.append_assoc]
  by_cases h : p.2 = 0
  · simp [h]
  · simp [h]
theorem ofL_two (a b : List UInt8) : ofL a ++ ofL b = ofL (a ++ b) := ofL_append a b
theorem head_like (n : HeadN) : PenLike (headPen n) (headRef n) := by
  have h := pen_ref (pNum n ++ pRest n ++ [(ofL (zero8B ++ zero8B), 0)] ++ pEnd n)
  have e : headRef n = refAll (pNum n ++ pRest n ++ [(ofL (zero8B ++ zero8B), 0)] ++ pEnd n) := by
    unfold headRef refAll
    simp only [List.foldl_append, List.foldl_cons, List.foldl_nil]
    rw [refPut_two, ofL_two]
  rw [e]
  exact h
theorem head_size (n : HeadN) : (headRef n).2 = 0 → (headRef n).1.size = 512 := by
  unfold headRef refAll pNum pRest pEnd
  simp only [List.foldl_append, List.foldl_cons, List.foldl_nil]
  have h0 : ((ByteArray.empty, 0) : Pen).2 = 0 → ((ByteArray.empty, 0) : Pen).1.size = 0 := fun _ => rfl
  have h1 := refPut_size h0 (fieldText_size n.nm 100 100 rfl true)
  have h2 := refPut_size h1 (octText_size n.mode 8 8 rfl)
  have h3 := refPut_size h2 (octText_size n.uid 8 8 rfl)
  have h4 := refPut_size h3 (octText_size n.gid 8 8 rfl)
  have h5 := refPut_size h4 (octText_size n.size 12 12 rfl)
  have h6 := refPut_size h5 (octText_size n.time 12 12 rfl)
  have h7 := refPut_size h6 (x := (ofL (eightB ++ [n.typ]), 0)) (k := 9) (fun _ => by rw [ofL_size]; rfl)
  have h8 := refPut_size h7 (fieldText_size n.lk 100 100 rfl true)
  have h9 := refPut_size h8 (x := (ofL ustarB, 0)) (k := 8) (fun _ => by rw [ofL_size]; rfl)
  have h10 := refPut_size h9 (fieldText_size n.user 32 32 rfl false)
  have h11 := refPut_size h10 (fieldText_size n.group 32 32 rfl false)
  have h12 := refPut_size h11 (x := (ofL zero8B, 0)) (k := 8) (fun _ => by rw [ofL_size]; rfl)
  have h13 := refPut_size h12 (x := (ofL zero8B, 0)) (k := 8) (fun _ => by rw [ofL_size]; rfl)
  have h14 := refPut_size h13 (fieldText_size n.px 155 155 rfl true)
  exact refPut_size h14 (x := (zerosS 12, 0)) (k := 12) (fun _ => by rw [zerosS_size])
def sumIn (s : ByteArray) : ByteArray := s.extract 0 148 ++ (octText (headSum s).1 7).1 ++ ofL [32] ++ s.extract 156 s.size
def headTypes : ByteArray := ofL [48, 49, 50, 53, 120]
def headText (n : HeadN) : ByteArray × Int :=
  if hasB headTypes n.typ = false then (ByteArray.empty, 2)
  else if ¬ (headRef n).2 = 0 then (ByteArray.empty, (headRef n).2) else (sumIn (headRef n).1, 0)
open Go.RowKit
theorem valid_of {r : Int} (h : Lib.validRune r = true) : Utf8.valid r = true := by
  unfold Lib.validRune at h
  unfold Utf8.valid
  simp at h ⊢
  omega
theorem get_byt! (s : ByteArray) (k : Nat) (h : k < s.size) : (s.get! k).toNat = byt s k := by
  rw [← byt_get s k h]
  simp [ByteArray.get!, getElem!_pos, h]
  rfl
theorem decode_skips (s : ByteArray) (pos : Nat) : ∀ k, 1 ≤ k → k < (Utf8.decode s pos).2 → pos + k < s.size ∧ 128 ≤ byt s (pos + k) := by
  have key : ∀ k, 1 ≤ k → k < (Utf8.decode s pos).2 → pos + k < s.size ∧ 128 ≤ (s.get! (pos + k)).toNat := by
    simp only [Utf8.decode]
    repeat' split
    all_goals
      intro k h1 h2
      simp only at h2
      have hk : k = 1 ∨ k = 2 ∨ k = 3 := by omega
      rcases hk with rfl | rfl | rfl <;> simp_all <;> omega
  intro k h1 h2
  obtain ⟨h3, h4⟩ := key k h1 h2
  exact ⟨h3, by rw [← get_byt! s _ h3]; exact h4⟩
def keyBad (s : ByteArray) : Bool := hasB s 61 || hasB s 10
theorem keyBad_yes {s : ByteArray} {k : Nat} (h : k < s.size) (e : byt s k = 61 ∨ byt s k = 10) : keyBad s = true := by
  unfold keyBad
  rcases e with e | e
  · rw [hasB_true h (c := 61) e]; rfl
  · rw [hasB_true h (c := 10) e, Bool.or_true]
theorem keyBad_no {s : ByteArray} (h : ∀ k, k < s.size → byt s k ≠ 61 ∧ byt s k ≠ 10) : keyBad s = false := by
  unfold keyBad
  rw [hasB_false (c := 61) (fun k hk => (h k hk).1), hasB_false (c := 10) (fun k hk => (h k hk).2)]; rfl
def RetIdx (w : World) (b : Bool) (e : Ending) (w' : World) : Prop := ∃ m : Int, e = .returned (.int .i64 m) ∧ decide (0 ≤ m) = b ∧ Below w.heap.size w w'
end Go.Creel
namespace Go.Proofs.YtaffgndickdbiaaGreatDoor
open Go.Creel Go.RowKit
set_option maxRecDepth 100000 in
set_option maxHeartbeats 1000000 in
theorem Rune_bad (r : Int) (w : World) (h0 : 128 ≤ r) (h1 : r ≤ 2147483647) (he : r ≠ 65533) (hv : Lib.validRune r = false) :
    Calls Tryz.prog 233 #[.string ⟨#[61, 10]⟩, .int .i32 r] w fun e w' => e = .returned (.int .i64 (-1)) ∧ w = w' := by
  have q0 : ¬ r < 128 := by omega
  have q1 : (r == 65533) = false := by rw [beq_eq_false_iff_ne]; exact he
  have HV := Lib.hid hv
  clear hv he
  go_enter Tryz.func233, Tryz.ntmps233
  go_wp2_with (go_at_call 246; refine (Tryz.utf8_ValidRune _ _).mono ?_; rintro e w' ⟨rfl, hw⟩; rw [hw, HV.out])
  go_ret
  exact ⟨rfl, rfl⟩
set_option maxRecDepth 100000 in
set_option maxHeartbeats 1000000 in
theorem Rune_long (r : Int) (w : World) (h0 : 128 ≤ r) (h1 : r ≤ 2147483647) (he : r ≠ 65533) (hv : Lib.validRune r = true) (e : ByteArray) (hE : Utf8.encode r = e) (h2 : 3 ≤ e.size) (h4 : e.size ≤ 4) :
    Calls Tryz.prog 233 #[.string ⟨#[61, 10]⟩, .int .i32 r] w fun e w' => e = .returned (.int .i64 (-1)) ∧ w = w' := by
  have q0 : ¬ r < 128 := by omega
  have q1 : (r == 65533) = false := by rw [beq_eq_false_iff_ne]; exact he
  have HV := Lib.hid hv
  have q2 : ¬ ((e.size : Int) - 1 < 2) := by omega
  clear hv he
  go_enter Tryz.func233, Tryz.ntmps233
  go_wp2_with (go_at_call 246; refine (Tryz.utf8_ValidRune _ _).mono ?_; rintro e w' ⟨rfl, hw⟩; rw [hw, HV.out])
  go_step3
  go_wp2
  go_loop [9, 10, 11, 12] (fun v9 v10 _ _ => v9 = .int .i64 (e.size - 1) ∧ v10 = .int .i64 0) (fun _ _ _ _ => 0)
  case atStart => exact ⟨rfl, rfl⟩
  case round =>
    obtain ⟨rfl, rfl⟩ := hrel
    go_wp2
    first | rw [Exit.noGoto_ret] | skip
    go_ret
    exact ⟨rfl, rfl⟩
set_option maxRecDepth 100000 in
set_option maxHeartbeats 1000000 in
theorem Rune_two (r : Int) (w : World) (h0 : 128 ≤ r) (h1 : r ≤ 2147483647) (he : r ≠ 65533) (hv : Lib.validRune r = true) (a b : UInt8) (hE : Utf8.encode r = ⟨#[a, b]⟩) (hb : 128 ≤ b.toNat) :
    Calls Tryz.prog 233 #[.string ⟨#[61, 10]⟩, .int .i32 r] w fun e w' => e = .returned (.int .i64 (-1)) ∧ Below w.heap.size w w' := by
  have q0 : ¬ r < 128 := by omega
  have q1 : (r == 65533) = false := by rw [beq_eq_false_iff_ne]; exact he
  have HV := Lib.hid hv
  have q2 : ((10 : Int) == (b.toNat : Int)) = false := by rw [beq_eq_false_iff_ne]; omega
  have q3 : ((10 : Int) != (b.toNat : Int)) = true := by rw [bne, q2]; rfl
  have q4 : ((((ByteArray.mk #[61, 10])[1]'(by decide)).toNat : Int) != (((ByteArray.mk #[a, b])[1]'(show 1 < 2 by omega)).toNat : Int)) = true := q3
  have hsz : (ByteArray.mk #[a, b]).size = 2 := rfl
  clear hv he
  go_enter Tryz.func233, Tryz.ntmps233
  go_wp2_with (go_at_call 246; refine (Tryz.utf8_ValidRune _ _).mono ?_; rintro e w' ⟨rfl, hw⟩; rw [hw, HV.out])
  go_step3
  go_wp2
  go_loop [9, 10, 11, 12] (fun v9 v10 _ _ => v9 = .int .i64 1 ∧ v10 = .int .i64 0) (fun _ _ _ _ => 0)
  case atStart => exact ⟨rfl, rfl⟩
  case round =>
    obtain ⟨rfl, rfl⟩ := hrel
    go_wp2
    go_step3
    go_wp2
    go_quiet (fail)
    go_wp2
    have hw2 : IntKind.i64.wrap ((1 : Int) + 1) = 2 := rfl
    have hw3 : IntKind.i64.wrap (2 : Int) = 2 := rfl
    have hsl : ∀ w, (Instr.slice 9 (.string ⟨#[61, 10]⟩) (some (.int .i64 2)) none none).run Tryz.prog w = .ok (.string ⟨#[]⟩) w := fun w => by kernel_rfl
    have hsl2 : ∀ w, (Instr.sliceAt 9 (.string ⟨#[61, 10]⟩) (some (.int .i64 2)) none none).run Tryz.prog w = .ok (.string ⟨#[]⟩) w := fun w => by kernel_rfl
    go_still_tail 7, (by kernel_rfl)
    go_wp2_with fail
    refine (IndexByte_any _ _ _).mono ?_
    rintro e w' ⟨rfl, rfl⟩
    rw [show firstIdx (ByteArray.mk #[]) ((((ByteArray.mk #[a, b])[1]'(show 1 < 2 by omega)).toNat : Int).toNat.toUInt8) = -1 from rfl]
    go_wp2
    rw [Exit.noGoto_ret]
    go_wp2
    first | rw [Exit.noGoto_ret] | skip
    go_ret
    exact ⟨rfl, rfl, rfl, rfl, Nat.le_refl _, fun _ _ => rfl⟩
set_option maxRecDepth 100000 in
set_option maxHeartbeats 1000000 in
theorem Rune_err (w : World) :
    Calls Tryz.prog 233 #[.string ⟨#[61, 10]⟩, .int .i32 65533] w fun e w' => e = .returned (.int .i64 (-1)) ∧ Below w.heap.size w w' := by
  go_enter Tryz.func233, Tryz.ntmps233
  go_wp2
  obtain ⟨s, hs⟩ : ∃ s : ByteArray, s = ⟨#[61, 10]⟩ := ⟨_, rfl⟩
  rw [← hs]
  have hsz : s.size = 2 := by rw [hs]; rfl
  have HX := Lib.hid (show ∀ k (h : k < s.size), (s[k]'h).toNat < 128 from by
    subst hs
    intro k h
    have : k = 0 ∨ k = 1 := by have : (ByteArray.mk #[61, 10]).size = 2 := rfl; omega
    rcases this with rfl | rfl
    · show (61 : UInt8).toNat < 128; decide
    · show (10 : UInt8).toNat < 128; decide)
  clear hs
  go_loopg [5, 6] 2 (fun g _ _ wx => ∃ i : Nat, i + g = 2 ∧ wx = w.iter s i)
  case atStart => exact ⟨0, by omega, rfl⟩
  case round =>
    obtain ⟨i, hig, rfl⟩ := hrel
    cases gk with
    | zero =>
      obtain rfl : i = 2 := by omega
      have hnx := run_next_end (P := Tryz.prog) w s 2
      go_wp2
      go_ret
      exact ⟨rfl, (Below.refl _ _).alloc (Nat.le_refl _) _⟩
    | succ g =>
      have hi : i < s.size := by omega
      have hx := HX.out i hi
      have hnx := fun ty => run_next_ascii (P := Tryz.prog) w s i ty hi hx
      have hne : (((s[i]'hi).toNat : Int) == 65533) = false := by rw [beq_eq_false_iff_ne]; omega
      go_wp2
      go_roundg g
      case measure => omega
      case rel => exact ⟨i + 1, by omega, rfl⟩
set_option maxRecDepth 100000 in
set_option maxHeartbeats 1000000 in
theorem Rune_asc (r : Int) (w : World) (h0 : 0 ≤ r) (h1 : r < 128) :
    Calls Tryz.prog 233 #[.string ⟨#[61, 10]⟩, .int .i32 r] w fun e w' => e = .returned (.int .i64 (firstIdx ⟨#[61, 10]⟩ r.toNat.toUInt8)) ∧ Below w.heap.size w w' := by
  have HI := Lib.hid (fun w => IndexByte_any ⟨#[61, 10]⟩ r w)
  go_enter Tryz.func233, Tryz.ntmps233
  go_wp2_with fail
  refine (HI.out _).mono ?_
  rintro e w' ⟨rfl, rfl⟩
  go_wp2
  go_ret
  exact ⟨rfl, Below.refl _ _⟩
theorem Rune_high (r : Int) (w : World) (h0 : 128 ≤ r) (h1 : r ≤ 2147483647) :
    Calls Tryz.prog 233 #[.string ⟨#[61, 10]⟩, .int .i32 r] w fun e w' => e = .returned (.int .i64 (-1)) ∧ Below w.heap.size w w' := by
  by_cases he : r = 65533
  · subst he; exact Rune_err w
  · cases hv : Lib.validRune r with
    | false => exact (Rune_bad r w h0 h1 he hv).mono fun e w' ⟨a, b⟩ => ⟨a, by rw [← b]; exact Below.refl _ _⟩
    | true =>
      obtain ⟨e1, e2, e3⟩ := encode_facts r (valid_of hv) h0
      by_cases h3 : 3 ≤ (Utf8.encode r).size
      · exact (Rune_long r w h0 h1 he hv _ rfl h3 e2).mono fun e w' ⟨a, b⟩ => ⟨a, by rw [← b]; exact Below.refl _ _⟩
      · have h2 : (Utf8.encode r).data.toList.length = 2 := by rw [← Lib.size_eq]; omega
        obtain ⟨a, b, hab⟩ : ∃ a b, (Utf8.encode r).data.toList = [a, b] := by
          match hl : (Utf8.encode r).data.toList, h2 with
          | [a, b], _ => exact ⟨a, b, rfl⟩
        have hE : Utf8.encode r = ⟨#[a, b]⟩ := ext_bytes (by rw [hab])
        refine Rune_two r w h0 h1 he hv a b hE ?_
        have := e3 (by omega)
        simp only [hE] at this
        exact this
end Go.Proofs.YtaffgndickdbiaaGreatDoor
namespace Go.Creel
open Go.RowKit
theorem below_iterAt {B k q : Nat} {w wr : World} {s : ByteArray} (h : Below B w wr) (hk : B ≤ k) : Below B w (wr.iterAt k s q) := by
  refine ⟨h.os, h.tape, h.output, by simp [World.iterAt]; exact h.size, fun b hb => ?_⟩
  have : (wr.iterAt k s q).heap[b]? = wr.heap[b]? := by
    simp only [World.iterAt]
    rw [Array.getElem?_setIfInBounds_ne (by omega)]
  rw [this]; exact h.block b hb
def NoSign (s : ByteArray) (p : Nat) : Prop := p ≤ s.size ∧ ∀ j, j < p → byt s j ≠ 61 ∧ byt s j ≠ 10
theorem NoSign.next {s : ByteArray} {p : Nat} (h : NoSign s p) (hp : p < s.size) (hx : byt s p ≠ 61 ∧ byt s p ≠ 10) : p < p + (Utf8.decode s p).2 ∧ NoSign s (p + (Utf8.decode s p).2) := by
  have hn : 1 ≤ (Utf8.decode s p).2 := by
    by_cases h128 : (s[p]'hp).toNat < 128
    · rw [decode_ascii s p hp h128]; exact Nat.le_refl _
    · exact (decode_high s p hp (by omega)).2
  have hsk := decode_skips s p
  generalize (Utf8.decode s p).2 = n at *
  refine ⟨by omega, ?_, fun j hj => ?_⟩
  · by_cases h1 : n = 1
    · omega
    · have := (hsk (n - 1) (by omega) (by omega)).1; omega
  · rcases Nat.lt_trichotomy j p with e | e | e
    · exact h.2 j e
    · rw [e]; exact hx
    · obtain ⟨k, rfl⟩ : ∃ k, j = p + k := ⟨j - p, by omega⟩
      have := (hsk k (by omega) (by omega)).2
      omega
end Go.Creel
namespace Go.Proofs.YtaffgndickdbiaaGreatDoor
open Go.Creel Go.RowKit
theorem ascii_idx {x : Nat} (hx : x < 128) : decide (0 ≤ firstIdx ⟨#[61, 10]⟩ ((x : Int).toNat.toUInt8)) = (decide (x = 61) || decide (x = 10)) := by
  rw [idx_has]
  unfold hasB
  have e : ((x : Int).toNat.toUInt8).toNat = x := by simp; omega
  have key : ∀ c : UInt8, (c == (x : Int).toNat.toUInt8) = decide (x = c.toNat) := by
    intro c
    rw [Bool.eq_iff_iff, beq_iff_eq, decide_eq_true_eq]
    constructor
    · intro h; rw [h, e]
    · intro h; exact UInt8.toNat_inj.1 (by rw [e]; exact h.symm)
  simp only [List.any_cons, List.any_nil, key, Bool.or_false]
  rfl
theorem UseSet_any (n : Int) (w : World) :
    Calls Tryz.prog 237 #[.int .i64 n] w fun e w' => e = .returned (.bool (decide (8 < n))) ∧ w = w' := by
  go_enter Tryz.func237, Tryz.ntmps237
  go_wp2
  go_ret
  exact ⟨rfl, rfl⟩
set_option maxRecDepth 100000 in
set_option maxHeartbeats 2000000 in
theorem IndexAny_short (s : ByteArray) (w : World) (h8 : s.size ≤ 8) :
    Calls Tryz.prog 222 #[.string s, .string ⟨#[61, 10]⟩] w (RetIdx w (keyBad s)) := by
  have h8z : decide ((8 : Int) < (s.size : Int)) = false := decide_eq_false (by omega)
  have HYES := Lib.hid (fun k hk e => keyBad_yes (s := s) (k := k) hk e)
  have HNO := Lib.hid (keyBad_no (s := s))
  go_enter Tryz.func222, Tryz.ntmps222
  go_wp2_with (go_at_call 237; refine (UseSet_any _ _).mono ?_; rintro e w' ⟨rfl, rfl⟩; rw [h8z])
  go_loopg [9, 10] s.size (fun g _ _ wx => ∃ p : Nat, s.size ≤ p + g ∧ Hid (wx.heap[w.heap.size]? = some (.stringIter s p)) ∧ Hid (Below w.heap.size w wx) ∧ Hid (NoSign s p))
  case atStart => exact ⟨0, by omega, Lib.hid (World.iter_heap w s 0), Lib.hid ((Below.refl _ _).alloc (Nat.le_refl _) _), Lib.hid ⟨by omega, fun j hj => absurd hj (by omega)⟩⟩
  case round =>
    obtain ⟨p, hpg, HIT, HB, HS⟩ := hrel
    by_cases hlt : p < s.size
    · obtain ⟨g, rfl⟩ : ∃ g, gk = g + 1 := ⟨gk - 1, by omega⟩
      have hnx : ∀ ty, (Instr.next (.pointer (some ⟨w.heap.size, 0, none⟩)) true ty).run Tryz.prog wr = _ := fun ty => Lib.run_next_any_at wr w.heap.size s p ty HIT.out hlt
      have HNX := Lib.hid (fun hx => HS.out.next hlt hx)
      have HHIT := Lib.hid (fun e => HYES.out p hlt e)
      have HI2 := Lib.hid (fun q => Lib.iterAt_heap wr w.heap.size s p q HIT.out)
      have HB2 := Lib.hid (fun q => below_iterAt (q := q) (s := s) HB.out (Nat.le_refl _))
      by_cases h128 : (s[p]'hlt).toNat < 128
      · have hdec := decode_ascii s p hlt h128
        have hby := byt_get s p hlt
        rw [hdec] at hnx HNX
        rw [hby] at hnx h128
        have HR := Lib.hid (fun w => Rune_asc ((byt s p : Nat) : Int) w (by omega) (by omega))
        have HAI := Lib.hid (ascii_idx h128)
        clear hdec hby HIT
        generalize byt s p = x at *
        generalize firstIdx ⟨#[61, 10]⟩ ((x : Int).toNat.toUInt8) = m at *
        simp only at hnx HNX
        go_wp2_with fail
        refine (HR.out _).mono ?_
        rintro e w3 ⟨rfl, hb⟩
        have HB3 := Lib.hid ((HB2.out _).trans (hb.mono (HB2.out _).size))
        have HI3 := Lib.hid ((hb.block w.heap.size (Array.getElem?_eq_some_iff.1 (HI2.out (p + 1))).1).trans (HI2.out (p + 1)))
        clear hb hnx
        by_cases hx : x = 61 ∨ x = 10
        · have HK := Lib.hid (HHIT.out hx)
          have hd : decide (0 ≤ m) = true := by rw [HAI.out]; simpa using hx
          clear hx
          go_wp2
          go_ret
          exact ⟨_, rfl, by rw [HK.out]; simp, HB3.out⟩
        · have HN := Lib.hid (HNX.out ⟨fun e => hx (.inl e), fun e => hx (.inr e)⟩)
          have hd : decide (0 ≤ m) = false := by rw [HAI.out]; simpa using hx
          clear hx
          go_wp2
          go_roundg g
          case measure => omega
          case rel => exact ⟨p + 1, by omega, HI3, HB3, Lib.hid HN.out.2⟩
      · obtain ⟨hr1, hr2⟩ := decode_high s p hlt (by omega)
        have hr3 := decode_le s p
        have hby := byt_get s p hlt
        have HN := Lib.hid (HNX.out (by rw [← hby]; omega))
        have HR := Lib.hid (fun w => Rune_high (((Utf8.decode s p).1 : Nat) : Int) w (by omega) (by omega))
        clear hby HIT HNX HHIT
        generalize Utf8.decode s p = d at *
        obtain ⟨d1, d2⟩ := d
        simp only at hnx HN hr1 hr2 hr3 HR
        have hpd : s.size ≤ p + d2 + g := by omega
        go_wp2_with fail
        refine (HR.out _).mono ?_
        rintro e w3 ⟨rfl, hb⟩
        have HB3 := Lib.hid ((HB2.out _).trans (hb.mono (HB2.out _).size))
        have HI3 := Lib.hid ((hb.block w.heap.size (Array.getElem?_eq_some_iff.1 (HI2.out (p + d2))).1).trans (HI2.out (p + d2)))
        clear hb hnx
        go_wp2
        go_roundg g
        case measure => omega
        case rel => exact ⟨p + d2, by omega, HI3, HB3, Lib.hid HN.out.2⟩
    · have HK := Lib.hid (HNO.out (fun k hk => HS.out.2 k (by omega)))
      have hnx : ∀ ty, (Instr.next (.pointer (some ⟨w.heap.size, 0, none⟩)) true ty).run Tryz.prog wr = _ := fun ty => Lib.run_next_end_at wr w.heap.size s p ty HIT.out hlt
      go_wp2
      go_ret
      exact ⟨_, rfl, by rw [HK.out]; rfl, HB.out⟩
end Go.Proofs.YtaffgndickdbiaaGreatDoor
