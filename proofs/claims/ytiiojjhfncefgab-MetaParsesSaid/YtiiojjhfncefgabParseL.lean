/-
  meta.Parse.
-/
import Derived.Test.YtiiojjhfncefgabParse
namespace Go.Creel
set_option linter.unusedVariables false
set_option linter.unusedSimpArgs false
open Go.RowKit
theorem or_nat (a b : Nat) (ha : a < 4096) (hb : b < 4096) : bits .or .i64 (a : Int) (b : Int) = ((a ||| b : Nat) : Int) := by
  have e : ∀ n : Nat, n < 4096 → (BitVec.ofInt 64 (n : Int)).toNat = n := by
    intro n hn
    rw [BitVec.toNat_ofInt]
    omega
  have key : (BitVec.ofInt 64 (a : Int) ||| BitVec.ofInt 64 (b : Int)).toNat = a ||| b := by
    rw [BitVec.toNat_or, e a ha, e b hb]
  show IntKind.i64.wrap ((BitVec.ofInt 64 (a : Int) ||| BitVec.ofInt 64 (b : Int)).toNat : Nat) = _
  have h2 : a ||| b < 2 ^ 12 := Nat.or_lt_two_pow (by omega) (by omega)
  rw [key, IntKind.wrap_i64]
  omega
theorem cv_lt (i : Nat) (c : UInt8) (hi : i < 9) : (cv i c).getD 0 < 2 ^ 12 := by
  have p1 : 2 ^ (8 - i) < 2 ^ 12 := Nat.pow_lt_pow_right (by decide) (by omega)
  have p2 : 2 ^ (11 - i / 3) < 2 ^ 12 := Nat.pow_lt_pow_right (by decide) (by omega)
  unfold cv
  split
  · exact p1
  · split
    · exact Nat.or_lt_two_pow p1 p2
    · split
      · exact p2
      · split <;> simp
theorem orS_lt (s : ByteArray) : ∀ k, k ≤ 9 → orS s k < 2 ^ 12
  | 0, _ => by simp [orS]
  | k + 1, h => Nat.or_lt_two_pow (orS_lt s k (by omega)) (cv_lt k _ (by omega))
theorem bu_get (s : ByteArray) (k : Nat) (h : k < s.size) : s[k] = bu s k := by
  unfold bu
  rw [List.getD_eq_getElem?_getD, Array.getElem?_toList]
  have : s.data[k]? = some s[k] := by
    rw [Array.getElem?_eq_getElem (by simpa using h)]; rfl
  rw [this]; rfl
theorem orS_next {s : ByteArray} {k n : Nat} (hk : k < 9) (h : cv k (bu s k) = some n) : bits .or .i64 ((orS s k : Nat) : Int) (n : Int) = ((orS s (k + 1) : Nat) : Int) := by
  have h2 : n < 2 ^ 12 := by
    have h3 := cv_lt k (bu s k) hk
    rw [h] at h3
    exact h3
  rw [or_nat _ _ (orS_lt s k (by omega)) h2]
  congr 1
  rw [orS, h]
  rfl
theorem orS_skip {s : ByteArray} {k : Nat} (h : cv k (bu s k) = some 0) : orS s (k + 1) = orS s k := by
  rw [orS, h]
  simp
theorem allS_next {s : ByteArray} {k n : Nat} (h : cv k (bu s k) = some n) (ha : allS s k = true) : allS s (k + 1) = true := by
  rw [allS, h, ha]
  rfl
theorem modeOf_bad {s : ByteArray} {k : Nat} (hs : s.size = 9) (hk : k < 9) (h : cv k (bu s k) = none) : modeOf s = (0, 3) := by
  unfold modeOf
  rw [if_pos hs, if_neg (by rw [allS_no h hk]; simp)]
theorem modeOf_ok {s : ByteArray} (hs : s.size = 9) (h : allS s 9 = true) : modeOf s = (((orS s 9 : Nat) : Int), 0) := by
  unfold modeOf
  rw [if_pos hs, if_pos h]
theorem nat_ne {c : UInt8} {v : UInt8} (h : ¬ c = v) : ¬ c.toNat = v.toNat := fun e => h (UInt8.toNat_inj.1 e)
theorem modeOf_size {s : ByteArray} (hs : s.size ≠ 9) : modeOf s = (0, 1) := by
  unfold modeOf
  rw [if_neg hs]
end Go.Creel
namespace Go.Proofs.Ytiiojjhfncefgab
set_option linter.unusedVariables false
set_option linter.unusedSimpArgs false
open Go.Creel Go.RowKit
set_option maxRecDepth 100000 in
set_option maxHeartbeats 4000000 in
theorem Parse_in (s : ByteArray) (w : World) (hs : s.size = 9) :
    Calls Try.prog 5 #[.string s] w fun e w' => e = .returned (.tuple #[.int .i64 (modeOf s).1, .int .i64 (modeOf s).2]) ∧ w = w' := by
  have HS := Lib.hid hs
  go_enter Try.func5, Try.ntmps5
  go_wp2
  go_loop [4, 5, 6, 7, 8, 9, 10, 16] (fun m _ _ _ _ _ _ i => ∃ k : Nat, k ≤ 9 ∧ i = .int .i64 k ∧ m = .int .i64 ((orS s k : Nat) : Int) ∧ Hid (allS s k = true)) (fun _ _ _ _ _ _ _ i => 9 - (intOf i).toNat)
  case atStart => exact ⟨0, by omega, rfl, rfl, Lib.hid rfl⟩
  case round =>
    obtain ⟨k, hk, rfl, rfl, HA⟩ := hrel
    by_cases hlt : k < 9
    · have hks : k < s.size := by omega
      have HG := Lib.hid (congrArg UInt8.toNat (bu_get s k hks))
      have HNX := Lib.hid (fun n => orS_next (s := s) (n := n) hlt)
      have HSK := Lib.hid (orS_skip (s := s) (k := k))
      have HAN := Lib.hid (fun n h => allS_next (s := s) (k := k) (n := n) h HA.out)
      have HBAD := Lib.hid (modeOf_bad (s := s) HS.out hlt)
      rcases (show k = 0 ∨ k = 1 ∨ k = 2 ∨ k = 3 ∨ k = 4 ∨ k = 5 ∨ k = 6 ∨ k = 7 ∨ k = 8 by omega) with rfl | rfl | rfl | rfl | rfl | rfl | rfl | rfl | rfl
      · by_cases h114 : bu s 0 = 114
        · have HC : Hid (cv 0 (bu s 0) = some 256) := Lib.hid (by rw [h114]; rfl)
          have hg := HG.out
          rw [h114] at hg
          have hg2 : s[0].toNat = 114 := hg
          have hor : bits .or .i64 ((orS s 0 : Nat) : Int) 256 = ((orS s 1 : Nat) : Int) := HNX.out 256 HC.out
          have HAL := Lib.hid (HAN.out _ HC.out)
          clear hg h114
          go_wp2
          go_round
          case rel => exact ⟨1, by omega, by go_num, rfl, HAL⟩
          case measure => simp [intOf]
        · by_cases h45 : bu s 0 = 45
          · have HC : Hid (cv 0 (bu s 0) = some 0) := Lib.hid (by rw [h45]; rfl)
            have hg := HG.out
            rw [h45] at hg
            have hg2 : s[0].toNat = 45 := hg
            have HAL := Lib.hid (HAN.out _ HC.out)
            clear hg h45 h114
            go_wp2
            go_round
            case rel => exact ⟨1, by omega, by go_num, by rw [HSK.out HC.out], HAL⟩
            case measure => simp [intOf]
          · have HF := Lib.hid (HBAD.out (by unfold cv; simp [bitU, smallU, greatU, h114, h45]))
            generalize bu s 0 = c at *
            have g114 := nat_ne h114
            have g45 := nat_ne h45
            clear h114 h45
            have hg := HG.out
            rw [← hg] at g114
            rw [← hg] at g45
            have q114 : ((s[0].toNat : Int) == 114) = false := by rw [beq_eq_false_iff_ne]; simp at g114; omega
            have q45 : ((s[0].toNat : Int) == 45) = false := by rw [beq_eq_false_iff_ne]; simp at g45; omega
            have qb : ((s[0].toNat : Int) == (((⟨#[114, 119, 120, 114, 119, 120, 114, 119, 120]⟩ : ByteArray)[0]'(by decide)).toNat : Int)) = false := q114
            clear hg g114 g45
            go_wp2
            go_ret2
            exact ⟨ret_ii HF.out, rfl⟩
      · by_cases h119 : bu s 1 = 119
        · have HC : Hid (cv 1 (bu s 1) = some 128) := Lib.hid (by rw [h119]; rfl)
          have hg := HG.out
          rw [h119] at hg
          have hg2 : s[1].toNat = 119 := hg
          have hor : bits .or .i64 ((orS s 1 : Nat) : Int) 128 = ((orS s 2 : Nat) : Int) := HNX.out 128 HC.out
          have HAL := Lib.hid (HAN.out _ HC.out)
          clear hg h119
          go_wp2
          go_round
          case rel => exact ⟨2, by omega, by go_num, rfl, HAL⟩
          case measure => simp [intOf]
        · by_cases h45 : bu s 1 = 45
          · have HC : Hid (cv 1 (bu s 1) = some 0) := Lib.hid (by rw [h45]; rfl)
            have hg := HG.out
            rw [h45] at hg
            have hg2 : s[1].toNat = 45 := hg
            have HAL := Lib.hid (HAN.out _ HC.out)
            clear hg h45 h119
            go_wp2
            go_round
            case rel => exact ⟨2, by omega, by go_num, by rw [HSK.out HC.out], HAL⟩
            case measure => simp [intOf]
          · have HF := Lib.hid (HBAD.out (by unfold cv; simp [bitU, smallU, greatU, h119, h45]))
            generalize bu s 1 = c at *
            have g119 := nat_ne h119
            have g45 := nat_ne h45
            clear h119 h45
            have hg := HG.out
            rw [← hg] at g119
            rw [← hg] at g45
            have q119 : ((s[1].toNat : Int) == 119) = false := by rw [beq_eq_false_iff_ne]; simp at g119; omega
            have q45 : ((s[1].toNat : Int) == 45) = false := by rw [beq_eq_false_iff_ne]; simp at g45; omega
            have qb : ((s[1].toNat : Int) == (((⟨#[114, 119, 120, 114, 119, 120, 114, 119, 120]⟩ : ByteArray)[1]'(by decide)).toNat : Int)) = false := q119
            clear hg g119 g45
            go_wp2
            go_ret2
            exact ⟨ret_ii HF.out, rfl⟩
      · by_cases h120 : bu s 2 = 120
        · have HC : Hid (cv 2 (bu s 2) = some 64) := Lib.hid (by rw [h120]; rfl)
          have hg := HG.out
          rw [h120] at hg
          have hg2 : s[2].toNat = 120 := hg
          have hor : bits .or .i64 ((orS s 2 : Nat) : Int) 64 = ((orS s 3 : Nat) : Int) := HNX.out 64 HC.out
          have HAL := Lib.hid (HAN.out _ HC.out)
          clear hg h120
          go_wp2
          go_round
          case rel => exact ⟨3, by omega, by go_num, rfl, HAL⟩
          case measure => simp [intOf]
        · by_cases h115 : bu s 2 = 115
          · have HC : Hid (cv 2 (bu s 2) = some 2112) := Lib.hid (by rw [h115]; rfl)
            have hg := HG.out
            rw [h115] at hg
            have hg2 : s[2].toNat = 115 := hg
            have hor : bits .or .i64 ((orS s 2 : Nat) : Int) 2112 = ((orS s 3 : Nat) : Int) := HNX.out 2112 HC.out
            have HAL := Lib.hid (HAN.out _ HC.out)
            clear hg h115 h120
            go_wp2
            go_round
            case rel => exact ⟨3, by omega, by go_num, congrArg (Value.int .i64) (by rw [show bits .or .i64 64 2048 = 2112 by kernel_rfl]; exact HNX.out 2112 HC.out), HAL⟩
            case measure => simp [intOf]
          · by_cases h83 : bu s 2 = 83
            · have HC : Hid (cv 2 (bu s 2) = some 2048) := Lib.hid (by rw [h83]; rfl)
              have hg := HG.out
              rw [h83] at hg
              have hg2 : s[2].toNat = 83 := hg
              have hor : bits .or .i64 ((orS s 2 : Nat) : Int) 2048 = ((orS s 3 : Nat) : Int) := HNX.out 2048 HC.out
              have HAL := Lib.hid (HAN.out _ HC.out)
              clear hg h83 h120 h115
              go_wp2
              go_round
              case rel => exact ⟨3, by omega, by go_num, rfl, HAL⟩
              case measure => simp [intOf]
            · by_cases h45 : bu s 2 = 45
              · have HC : Hid (cv 2 (bu s 2) = some 0) := Lib.hid (by rw [h45]; rfl)
                have hg := HG.out
                rw [h45] at hg
                have hg2 : s[2].toNat = 45 := hg
                have HAL := Lib.hid (HAN.out _ HC.out)
                clear hg h45 h120 h115 h83
                go_wp2
                go_round
                case rel => exact ⟨3, by omega, by go_num, by rw [HSK.out HC.out], HAL⟩
                case measure => simp [intOf]
              · have HF := Lib.hid (HBAD.out (by unfold cv; simp [bitU, smallU, greatU, h120, h115, h83, h45]))
                generalize bu s 2 = c at *
                have g120 := nat_ne h120
                have g115 := nat_ne h115
                have g83 := nat_ne h83
                have g45 := nat_ne h45
                clear h120 h115 h83 h45
                have hg := HG.out
                rw [← hg] at g120
                rw [← hg] at g115
                rw [← hg] at g83
                rw [← hg] at g45
                have q120 : ((s[2].toNat : Int) == 120) = false := by rw [beq_eq_false_iff_ne]; simp at g120; omega
                have q115 : ((s[2].toNat : Int) == 115) = false := by rw [beq_eq_false_iff_ne]; simp at g115; omega
                have q83 : ((s[2].toNat : Int) == 83) = false := by rw [beq_eq_false_iff_ne]; simp at g83; omega
                have q45 : ((s[2].toNat : Int) == 45) = false := by rw [beq_eq_false_iff_ne]; simp at g45; omega
                have qb : ((s[2].toNat : Int) == (((⟨#[114, 119, 120, 114, 119, 120, 114, 119, 120]⟩ : ByteArray)[2]'(by decide)).toNat : Int)) = false := q120
                clear hg g120 g115 g83 g45
                go_wp2
                go_ret2
                exact ⟨ret_ii HF.out, rfl⟩
      · by_cases h114 : bu s 3 = 114
        · have HC : Hid (cv 3 (bu s 3) = some 32) := Lib.hid (by rw [h114]; rfl)
          have hg := HG.out
          rw [h114] at hg
          have hg2 : s[3].toNat = 114 := hg
          have hor : bits .or .i64 ((orS s 3 : Nat) : Int) 32 = ((orS s 4 : Nat) : Int) := HNX.out 32 HC.out
          have HAL := Lib.hid (HAN.out _ HC.out)
          clear hg h114
          go_wp2
          go_round
          case rel => exact ⟨4, by omega, by go_num, rfl, HAL⟩
          case measure => simp [intOf]
        · by_cases h45 : bu s 3 = 45
          · have HC : Hid (cv 3 (bu s 3) = some 0) := Lib.hid (by rw [h45]; rfl)
            have hg := HG.out
            rw [h45] at hg
            have hg2 : s[3].toNat = 45 := hg
            have HAL := Lib.hid (HAN.out _ HC.out)
            clear hg h45 h114
            go_wp2
            go_round
            case rel => exact ⟨4, by omega, by go_num, by rw [HSK.out HC.out], HAL⟩
            case measure => simp [intOf]
          · have HF := Lib.hid (HBAD.out (by unfold cv; simp [bitU, smallU, greatU, h114, h45]))
            generalize bu s 3 = c at *
            have g114 := nat_ne h114
            have g45 := nat_ne h45
            clear h114 h45
            have hg := HG.out
            rw [← hg] at g114
            rw [← hg] at g45
            have q114 : ((s[3].toNat : Int) == 114) = false := by rw [beq_eq_false_iff_ne]; simp at g114; omega
            have q45 : ((s[3].toNat : Int) == 45) = false := by rw [beq_eq_false_iff_ne]; simp at g45; omega
            have qb : ((s[3].toNat : Int) == (((⟨#[114, 119, 120, 114, 119, 120, 114, 119, 120]⟩ : ByteArray)[3]'(by decide)).toNat : Int)) = false := q114
            clear hg g114 g45
            go_wp2
            go_ret2
            exact ⟨ret_ii HF.out, rfl⟩
      · by_cases h119 : bu s 4 = 119
        · have HC : Hid (cv 4 (bu s 4) = some 16) := Lib.hid (by rw [h119]; rfl)
          have hg := HG.out
          rw [h119] at hg
          have hg2 : s[4].toNat = 119 := hg
          have hor : bits .or .i64 ((orS s 4 : Nat) : Int) 16 = ((orS s 5 : Nat) : Int) := HNX.out 16 HC.out
          have HAL := Lib.hid (HAN.out _ HC.out)
          clear hg h119
          go_wp2
          go_round
          case rel => exact ⟨5, by omega, by go_num, rfl, HAL⟩
          case measure => simp [intOf]
        · by_cases h45 : bu s 4 = 45
          · have HC : Hid (cv 4 (bu s 4) = some 0) := Lib.hid (by rw [h45]; rfl)
            have hg := HG.out
            rw [h45] at hg
            have hg2 : s[4].toNat = 45 := hg
            have HAL := Lib.hid (HAN.out _ HC.out)
            clear hg h45 h119
            go_wp2
            go_round
            case rel => exact ⟨5, by omega, by go_num, by rw [HSK.out HC.out], HAL⟩
            case measure => simp [intOf]
          · have HF := Lib.hid (HBAD.out (by unfold cv; simp [bitU, smallU, greatU, h119, h45]))
            generalize bu s 4 = c at *
            have g119 := nat_ne h119
            have g45 := nat_ne h45
            clear h119 h45
            have hg := HG.out
            rw [← hg] at g119
            rw [← hg] at g45
            have q119 : ((s[4].toNat : Int) == 119) = false := by rw [beq_eq_false_iff_ne]; simp at g119; omega
            have q45 : ((s[4].toNat : Int) == 45) = false := by rw [beq_eq_false_iff_ne]; simp at g45; omega
            have qb : ((s[4].toNat : Int) == (((⟨#[114, 119, 120, 114, 119, 120, 114, 119, 120]⟩ : ByteArray)[4]'(by decide)).toNat : Int)) = false := q119
            clear hg g119 g45
            go_wp2
            go_ret2
            exact ⟨ret_ii HF.out, rfl⟩
      · by_cases h120 : bu s 5 = 120
        · have HC : Hid (cv 5 (bu s 5) = some 8) := Lib.hid (by rw [h120]; rfl)
          have hg := HG.out
          rw [h120] at hg
          have hg2 : s[5].toNat = 120 := hg
          have hor : bits .or .i64 ((orS s 5 : Nat) : Int) 8 = ((orS s 6 : Nat) : Int) := HNX.out 8 HC.out
          have HAL := Lib.hid (HAN.out _ HC.out)
          clear hg h120
          go_wp2
          go_round
          case rel => exact ⟨6, by omega, by go_num, rfl, HAL⟩
          case measure => simp [intOf]
        · by_cases h115 : bu s 5 = 115
          · have HC : Hid (cv 5 (bu s 5) = some 1032) := Lib.hid (by rw [h115]; rfl)
            have hg := HG.out
            rw [h115] at hg
            have hg2 : s[5].toNat = 115 := hg
            have hor : bits .or .i64 ((orS s 5 : Nat) : Int) 1032 = ((orS s 6 : Nat) : Int) := HNX.out 1032 HC.out
            have HAL := Lib.hid (HAN.out _ HC.out)
            clear hg h115 h120
            go_wp2
            go_round
            case rel => exact ⟨6, by omega, by go_num, congrArg (Value.int .i64) (by rw [show bits .or .i64 8 1024 = 1032 by kernel_rfl]; exact HNX.out 1032 HC.out), HAL⟩
            case measure => simp [intOf]
          · by_cases h83 : bu s 5 = 83
            · have HC : Hid (cv 5 (bu s 5) = some 1024) := Lib.hid (by rw [h83]; rfl)
              have hg := HG.out
              rw [h83] at hg
              have hg2 : s[5].toNat = 83 := hg
              have hor : bits .or .i64 ((orS s 5 : Nat) : Int) 1024 = ((orS s 6 : Nat) : Int) := HNX.out 1024 HC.out
              have HAL := Lib.hid (HAN.out _ HC.out)
              clear hg h83 h120 h115
              go_wp2
              go_round
              case rel => exact ⟨6, by omega, by go_num, rfl, HAL⟩
              case measure => simp [intOf]
            · by_cases h45 : bu s 5 = 45
              · have HC : Hid (cv 5 (bu s 5) = some 0) := Lib.hid (by rw [h45]; rfl)
                have hg := HG.out
                rw [h45] at hg
                have hg2 : s[5].toNat = 45 := hg
                have HAL := Lib.hid (HAN.out _ HC.out)
                clear hg h45 h120 h115 h83
                go_wp2
                go_round
                case rel => exact ⟨6, by omega, by go_num, by rw [HSK.out HC.out], HAL⟩
                case measure => simp [intOf]
              · have HF := Lib.hid (HBAD.out (by unfold cv; simp [bitU, smallU, greatU, h120, h115, h83, h45]))
                generalize bu s 5 = c at *
                have g120 := nat_ne h120
                have g115 := nat_ne h115
                have g83 := nat_ne h83
                have g45 := nat_ne h45
                clear h120 h115 h83 h45
                have hg := HG.out
                rw [← hg] at g120
                rw [← hg] at g115
                rw [← hg] at g83
                rw [← hg] at g45
                have q120 : ((s[5].toNat : Int) == 120) = false := by rw [beq_eq_false_iff_ne]; simp at g120; omega
                have q115 : ((s[5].toNat : Int) == 115) = false := by rw [beq_eq_false_iff_ne]; simp at g115; omega
                have q83 : ((s[5].toNat : Int) == 83) = false := by rw [beq_eq_false_iff_ne]; simp at g83; omega
                have q45 : ((s[5].toNat : Int) == 45) = false := by rw [beq_eq_false_iff_ne]; simp at g45; omega
                have qb : ((s[5].toNat : Int) == (((⟨#[114, 119, 120, 114, 119, 120, 114, 119, 120]⟩ : ByteArray)[5]'(by decide)).toNat : Int)) = false := q120
                clear hg g120 g115 g83 g45
                go_wp2
                go_ret2
                exact ⟨ret_ii HF.out, rfl⟩
      · by_cases h114 : bu s 6 = 114
        · have HC : Hid (cv 6 (bu s 6) = some 4) := Lib.hid (by rw [h114]; rfl)
          have hg := HG.out
          rw [h114] at hg
          have hg2 : s[6].toNat = 114 := hg
          have hor : bits .or .i64 ((orS s 6 : Nat) : Int) 4 = ((orS s 7 : Nat) : Int) := HNX.out 4 HC.out
          have HAL := Lib.hid (HAN.out _ HC.out)
          clear hg h114
          go_wp2
          go_round
          case rel => exact ⟨7, by omega, by go_num, rfl, HAL⟩
          case measure => simp [intOf]
        · by_cases h45 : bu s 6 = 45
          · have HC : Hid (cv 6 (bu s 6) = some 0) := Lib.hid (by rw [h45]; rfl)
            have hg := HG.out
            rw [h45] at hg
            have hg2 : s[6].toNat = 45 := hg
            have HAL := Lib.hid (HAN.out _ HC.out)
            clear hg h45 h114
            go_wp2
            go_round
            case rel => exact ⟨7, by omega, by go_num, by rw [HSK.out HC.out], HAL⟩
            case measure => simp [intOf]
          · have HF := Lib.hid (HBAD.out (by unfold cv; simp [bitU, smallU, greatU, h114, h45]))
            generalize bu s 6 = c at *
            have g114 := nat_ne h114
            have g45 := nat_ne h45
            clear h114 h45
            have hg := HG.out
            rw [← hg] at g114
            rw [← hg] at g45
            have q114 : ((s[6].toNat : Int) == 114) = false := by rw [beq_eq_false_iff_ne]; simp at g114; omega
            have q45 : ((s[6].toNat : Int) == 45) = false := by rw [beq_eq_false_iff_ne]; simp at g45; omega
            have qb : ((s[6].toNat : Int) == (((⟨#[114, 119, 120, 114, 119, 120, 114, 119, 120]⟩ : ByteArray)[6]'(by decide)).toNat : Int)) = false := q114
            clear hg g114 g45
            go_wp2
            go_ret2
            exact ⟨ret_ii HF.out, rfl⟩
      · by_cases h119 : bu s 7 = 119
        · have HC : Hid (cv 7 (bu s 7) = some 2) := Lib.hid (by rw [h119]; rfl)
          have hg := HG.out
          rw [h119] at hg
          have hg2 : s[7].toNat = 119 := hg
          have hor : bits .or .i64 ((orS s 7 : Nat) : Int) 2 = ((orS s 8 : Nat) : Int) := HNX.out 2 HC.out
          have HAL := Lib.hid (HAN.out _ HC.out)
          clear hg h119
          go_wp2
          go_round
          case rel => exact ⟨8, by omega, by go_num, rfl, HAL⟩
          case measure => simp [intOf]
        · by_cases h45 : bu s 7 = 45
          · have HC : Hid (cv 7 (bu s 7) = some 0) := Lib.hid (by rw [h45]; rfl)
            have hg := HG.out
            rw [h45] at hg
            have hg2 : s[7].toNat = 45 := hg
            have HAL := Lib.hid (HAN.out _ HC.out)
            clear hg h45 h119
            go_wp2
            go_round
            case rel => exact ⟨8, by omega, by go_num, by rw [HSK.out HC.out], HAL⟩
            case measure => simp [intOf]
          · have HF := Lib.hid (HBAD.out (by unfold cv; simp [bitU, smallU, greatU, h119, h45]))
            generalize bu s 7 = c at *
            have g119 := nat_ne h119
            have g45 := nat_ne h45
            clear h119 h45
            have hg := HG.out
            rw [← hg] at g119
            rw [← hg] at g45
            have q119 : ((s[7].toNat : Int) == 119) = false := by rw [beq_eq_false_iff_ne]; simp at g119; omega
            have q45 : ((s[7].toNat : Int) == 45) = false := by rw [beq_eq_false_iff_ne]; simp at g45; omega
            have qb : ((s[7].toNat : Int) == (((⟨#[114, 119, 120, 114, 119, 120, 114, 119, 120]⟩ : ByteArray)[7]'(by decide)).toNat : Int)) = false := q119
            clear hg g119 g45
            go_wp2
            go_ret2
            exact ⟨ret_ii HF.out, rfl⟩
      · by_cases h120 : bu s 8 = 120
        · have HC : Hid (cv 8 (bu s 8) = some 1) := Lib.hid (by rw [h120]; rfl)
          have hg := HG.out
          rw [h120] at hg
          have hg2 : s[8].toNat = 120 := hg
          have hor : bits .or .i64 ((orS s 8 : Nat) : Int) 1 = ((orS s 9 : Nat) : Int) := HNX.out 1 HC.out
          have HAL := Lib.hid (HAN.out _ HC.out)
          clear hg h120
          go_wp2
          go_round
          case rel => exact ⟨9, by omega, by go_num, rfl, HAL⟩
          case measure => simp [intOf]
        · by_cases h116 : bu s 8 = 116
          · have HC : Hid (cv 8 (bu s 8) = some 513) := Lib.hid (by rw [h116]; rfl)
            have hg := HG.out
            rw [h116] at hg
            have hg2 : s[8].toNat = 116 := hg
            have hor : bits .or .i64 ((orS s 8 : Nat) : Int) 513 = ((orS s 9 : Nat) : Int) := HNX.out 513 HC.out
            have HAL := Lib.hid (HAN.out _ HC.out)
            clear hg h116 h120
            go_wp2
            go_round
            case rel => exact ⟨9, by omega, by go_num, congrArg (Value.int .i64) (by rw [show bits .or .i64 1 512 = 513 by kernel_rfl]; exact HNX.out 513 HC.out), HAL⟩
            case measure => simp [intOf]
          · by_cases h84 : bu s 8 = 84
            · have HC : Hid (cv 8 (bu s 8) = some 512) := Lib.hid (by rw [h84]; rfl)
              have hg := HG.out
              rw [h84] at hg
              have hg2 : s[8].toNat = 84 := hg
              have hor : bits .or .i64 ((orS s 8 : Nat) : Int) 512 = ((orS s 9 : Nat) : Int) := HNX.out 512 HC.out
              have HAL := Lib.hid (HAN.out _ HC.out)
              clear hg h84 h120 h116
              go_wp2
              go_round
              case rel => exact ⟨9, by omega, by go_num, rfl, HAL⟩
              case measure => simp [intOf]
            · by_cases h45 : bu s 8 = 45
              · have HC : Hid (cv 8 (bu s 8) = some 0) := Lib.hid (by rw [h45]; rfl)
                have hg := HG.out
                rw [h45] at hg
                have hg2 : s[8].toNat = 45 := hg
                have HAL := Lib.hid (HAN.out _ HC.out)
                clear hg h45 h120 h116 h84
                go_wp2
                go_round
                case rel => exact ⟨9, by omega, by go_num, by rw [HSK.out HC.out], HAL⟩
                case measure => simp [intOf]
              · have HF := Lib.hid (HBAD.out (by unfold cv; simp [bitU, smallU, greatU, h120, h116, h84, h45]))
                generalize bu s 8 = c at *
                have g120 := nat_ne h120
                have g116 := nat_ne h116
                have g84 := nat_ne h84
                have g45 := nat_ne h45
                clear h120 h116 h84 h45
                have hg := HG.out
                rw [← hg] at g120
                rw [← hg] at g116
                rw [← hg] at g84
                rw [← hg] at g45
                have q120 : ((s[8].toNat : Int) == 120) = false := by rw [beq_eq_false_iff_ne]; simp at g120; omega
                have q116 : ((s[8].toNat : Int) == 116) = false := by rw [beq_eq_false_iff_ne]; simp at g116; omega
                have q84 : ((s[8].toNat : Int) == 84) = false := by rw [beq_eq_false_iff_ne]; simp at g84; omega
                have q45 : ((s[8].toNat : Int) == 45) = false := by rw [beq_eq_false_iff_ne]; simp at g45; omega
                have qb : ((s[8].toNat : Int) == (((⟨#[114, 119, 120, 114, 119, 120, 114, 119, 120]⟩ : ByteArray)[8]'(by decide)).toNat : Int)) = false := q120
                clear hg g120 g116 g84 g45
                go_wp2
                go_ret2
                exact ⟨ret_ii HF.out, rfl⟩
    · obtain rfl : k = 9 := by omega
      have HF := Lib.hid (modeOf_ok HS.out HA.out)
      go_wp2
      go_ret2
      exact ⟨ret_ii HF.out, rfl⟩
end Go.Proofs.Ytiiojjhfncefgab
