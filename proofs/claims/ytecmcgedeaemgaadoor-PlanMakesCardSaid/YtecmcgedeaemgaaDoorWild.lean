/-
  glob.wild, walked: for any two closures that answer as told.
-/
import Derived.Test.YtecmcgedeaemgaaDoorWildSpec
import Derived.Test.YtecmcgedeaemgaaDoorGlobCheck
namespace Go.Creel
set_option linter.unusedVariables false
set_option linter.unusedSimpArgs false
open Go.RowKit
/-- how much is left to do -/
def wildLeft (n m : Nat) (i last from_ : Int) : Nat := (((n : Int) - last).toNat * (m + 1) + (m - from_.toNat)) * (n + 1) + (n - i.toNat)
theorem wildLeft_star {n m i f k : Nat} {last : Int} (hi : i < n) (hf : f ≤ m) (hk : k ≤ m) (h0 : -1 ≤ last) (hl : last < i) : wildLeft n m (i + 1) i k < wildLeft n m i last f := by
  unfold wildLeft
  have e1 : ((n : Int) - (i : Int)).toNat = n - i := by omega
  obtain ⟨L, hL⟩ : ∃ L : Nat, ((n : Int) - last).toNat = L := ⟨_, rfl⟩
  have hLn : n - i + 1 ≤ L := by omega
  rw [e1, hL]
  have h1 : (n - i) * (m + 1) + (m + 1) ≤ L * (m + 1) := by
    have := Nat.mul_le_mul_right (m + 1) hLn
    rwa [Nat.add_mul, Nat.one_mul] at this
  have h2 : (n - i) * (m + 1) + (m - ((k : Nat) : Int).toNat) + 1 ≤ L * (m + 1) + (m - ((f : Nat) : Int).toNat) := by omega
  have h3 := Nat.mul_le_mul_right (n + 1) h2
  rw [Nat.add_mul, Nat.one_mul] at h3
  omega
theorem wildLeft_fit {n m i : Nat} {last f : Int} (hi : i < n) : wildLeft n m (i + 1) last f < wildLeft n m i last f := by
  unfold wildLeft
  omega
theorem wildLeft_miss {n m l i f : Nat} (hf : f < m) : wildLeft n m (l + 1) l (f + 1) < wildLeft n m i l f := by
  unfold wildLeft
  have h2 : ((n : Int) - (l : Int)).toNat * (m + 1) + (m - ((f : Int) + 1).toNat) + 1 ≤ ((n : Int) - (l : Int)).toNat * (m + 1) + (m - ((f : Nat) : Int).toNat) := by omega
  have h3 := Nat.mul_le_mul_right (n + 1) h2
  rw [Nat.add_mul, Nat.one_mul] at h3
  omega
def lastV (has : Bool) (l : Nat) : Int := if has = true then (l : Int) else -1
end Go.Creel
namespace Go.Proofs.YtecmcgedeaemgaaDoor
set_option linter.unusedVariables false
set_option linter.unusedSimpArgs false
open Go.Creel Go.RowKit
set_option maxRecDepth 100000 in
set_option maxHeartbeats 4000000 in
theorem Wild_any (n m : Nat) (Fs Ff : FuncId) (a1 a2 : Addr) (star : Nat → Bool) (fits : Nat → Nat → Bool) (w : World) (hn : n ≤ 1000) (hm : m ≤ 1000)
    (hcs : ∀ (args : Array Value) (w : World), (callFunc Fs args).run Tryd.prog w = .ok (.enter Fs args) w) (hcf : ∀ (args : Array Value) (w : World), (callFunc Ff args).run Tryd.prog w = .ok (.enter Ff args) w)
    (hS : ∀ w' (i : Nat), Below w.heap.size w w' → i < n → Calls Tryd.prog Fs #[.int .i64 i, .pointer (some a1)] w' fun e w2 => e = .returned (.bool (star i)) ∧ Below w'.heap.size w' w2)
    (hF : ∀ w' (i k : Nat), Below w.heap.size w w' → i < n → k < m → Calls Tryd.prog Ff #[.int .i64 i, .int .i64 k, .pointer (some a1), .pointer (some a2)] w' fun e w2 => e = .returned (.bool (fits i k)) ∧ Below w'.heap.size w' w2) :
    Calls Tryd.prog 106 #[.int .i64 n, .int .i64 m, .func (.func Fs) #[] #[.pointer (some a1)], .func (.func Ff) #[] #[.pointer (some a1), .pointer (some a2)]] w fun e w' => e = .returned (.bool (wildM n m star fits 0 0)) ∧ Below w.heap.size w w' := by
  have HS := Lib.hid hS
  have HF := Lib.hid hF
  clear hS hF
  go_enter Tryd.func106, Tryd.ntmps106
  go_wp2
  go_loopw [9, 10, 11, 12] (fun i last f k wr => ∃ (i' k' l' f' : Nat) (has : Bool), i = .int .i64 i' ∧ k = .int .i64 k' ∧ last = .int .i64 (lastV has l') ∧ f = .int .i64 f' ∧ i' ≤ n ∧ k' ≤ m ∧ f' ≤ k' ∧ l' ≤ i' ∧ Hid (has = true → l' < i') ∧ Hid (WildAt n m star fits i' k' l' f' has) ∧ Hid (Below w.heap.size w wr)) (fun i last f _ _ => wildLeft n m (intOf i) (intOf last) (intOf f))
  case atStart => exact ⟨0, 0, 0, 0, false, rfl, rfl, rfl, rfl, by omega, by omega, by omega, by omega, Lib.hid (fun h => by cases h), Lib.hid WildAt.start, Lib.hid (Below.refl _ _)⟩
  case round =>
    obtain ⟨i, k, l, f, has, rfl, rfl, rfl, rfl, hi, hk, hfk, hli, HL, HA, HB⟩ := hrel
    have hlv : -1 ≤ lastV has l ∧ lastV has l ≤ 1000 := by unfold lastV; split <;> omega
    by_cases hkm : k < m
    · have HMISS := Lib.hid (fun (h : wildM n m star fits i k = false) => HA.out.miss hkm h)
      have HSTAR := Lib.hid (fun (h1 : i < n) (h2 : star i = true) => HA.out.met h1 h2)
      have HFIT := Lib.hid (fun (h1 : i < n) (h2 : ¬ star i = true) (h3 : fits i k = true) => HA.out.goes h1 hkm h2 h3)
      by_cases hin : i < n
      · have HC1 := Lib.hid (HS.out wr i HB.out hin)
        cases hst : star i with
        | true =>
          rw [hst] at HC1
          have HN := Lib.hid (HSTAR.out hin hst)
          have HMS := Lib.hid (wildLeft_star (n := n) (m := m) (i := i) (f := f) (k := k) (last := lastV has l) hin (by omega) hk hlv.1 (by
            unfold lastV
            split
            · rename_i e; have := HL.out e; omega
            · omega))
          generalize hlq : lastV has l = lq at *
          clear hst hlq
          go_wp2_with fail
          refine HC1.out.mono ?_
          rintro e w2 ⟨rfl, hb⟩
          have HB2 := Lib.hid (HB.out.trans (hb.mono HB.out.size))
          clear hb
          go_wp2
          go_roundw
          case rel => exact ⟨i + 1, k, i, k, true, by go_num, rfl, rfl, rfl, by omega, by omega, by omega, by omega, Lib.hid (fun _ => by omega), HN, HB2⟩
          case measure => exact HMS.out
        | false =>
          rw [hst] at HC1
          have hns : ¬ star i = true := by rw [hst]; simp
          have HC2 := Lib.hid (fun w2 hb => HF.out w2 i k hb hin hkm)
          cases hft : fits i k with
          | true =>
            have HN := Lib.hid (HFIT.out hin hns hft)
            have HMS := Lib.hid (wildLeft_fit (n := n) (m := m) (i := i) (f := (f : Int)) (last := lastV has l) hin)
            rw [hft] at HC2
            clear hst hft hns
            generalize hlq : lastV has l = lq at *
            have HLQ := Lib.hid hlq
            clear hlq
            go_wp2_with fail
            refine HC1.out.mono ?_
            rintro e w2 ⟨rfl, hb⟩
            have HB2 := Lib.hid (HB.out.trans (hb.mono HB.out.size))
            clear hb
            go_wp2_with fail
            refine (HC2.out _ HB2.out).mono ?_
            rintro e w3 ⟨rfl, hb⟩
            have HB3 := Lib.hid (HB2.out.trans (hb.mono HB2.out.size))
            clear hb
            go_wp2
            go_roundw
            case rel => exact ⟨i + 1, k + 1, l, f, has, by go_num, by go_num, by rw [HLQ.out], rfl, by omega, by omega, by omega, by omega, Lib.hid (fun h => by have := HL.out h; omega), HN, HB3⟩
            case measure => exact HMS.out
          | false =>
            have HM := Lib.hid (HMISS.out (wildM_no hin hns hft))
            rw [hft] at HC2
            clear hst hft hns hlv
            cases has with
            | true =>
              have hlq : lastV true l = (l : Int) := rfl
              have HN := Lib.hid (HM.out.2 rfl)
              have hll := HL.out rfl
              have HMS := Lib.hid (wildLeft_miss (n := n) (m := m) (l := l) (i := i) (f := f) (by omega))
              go_wp2_with fail
              refine HC1.out.mono ?_
              rintro e w2 ⟨rfl, hb⟩
              have HB2 := Lib.hid (HB.out.trans (hb.mono HB.out.size))
              clear hb
              go_wp2_with fail
              refine (HC2.out _ HB2.out).mono ?_
              rintro e w3 ⟨rfl, hb⟩
              have HB3 := Lib.hid (HB2.out.trans (hb.mono HB2.out.size))
              clear hb
              go_wp2
              go_roundw
              case rel => exact ⟨l + 1, f + 1, l, f + 1, true, by go_num, by go_num, rfl, by go_num, by omega, by omega, by omega, by omega, Lib.hid (fun _ => by omega), HN, HB3⟩
              case measure => exact HMS.out
            | false =>
              have hlq : lastV false l = (-1 : Int) := rfl
              have HN := Lib.hid (HM.out.1 rfl)
              go_wp2_with fail
              refine HC1.out.mono ?_
              rintro e w2 ⟨rfl, hb⟩
              have HB2 := Lib.hid (HB.out.trans (hb.mono HB.out.size))
              clear hb
              go_wp2_with fail
              refine (HC2.out _ HB2.out).mono ?_
              rintro e w3 ⟨rfl, hb⟩
              have HB3 := Lib.hid (HB2.out.trans (hb.mono HB2.out.size))
              clear hb
              go_wp2
              go_ret
              exact ⟨ret_b HN.out, HB3.out⟩
      · have hie : i = n := by omega
        have HM := Lib.hid (HMISS.out (by rw [hie]; exact wildM_off hkm))
        clear hie hlv
        cases has with
        | true =>
          have hlq : lastV true l = (l : Int) := rfl
          have HN := Lib.hid (HM.out.2 rfl)
          have hll := HL.out rfl
          have HMS := Lib.hid (wildLeft_miss (n := n) (m := m) (l := l) (i := i) (f := f) (by omega))
          go_wp2
          go_roundw
          case rel => exact ⟨l + 1, f + 1, l, f + 1, true, by go_num, by go_num, rfl, by go_num, by omega, by omega, by omega, by omega, Lib.hid (fun _ => by omega), HN, HB⟩
          case measure => exact HMS.out
        | false =>
          have hlq : lastV false l = (-1 : Int) := rfl
          have HN := Lib.hid (HM.out.1 rfl)
          go_wp2
          go_ret
          exact ⟨ret_b HN.out, HB.out⟩
    · have hke : k = m := by omega
      subst hke
      have HD := Lib.hid HA.out.done
      generalize lastV has l = lq at *
      clear hlv
      go_wp2
      go_loopw [9] (fun v w5 => ∃ i2 : Nat, v = .int .i64 i2 ∧ i2 ≤ n ∧ Hid (wildM n k star fits 0 0 = wildM n k star fits i2 k) ∧ Hid (Below w.heap.size w w5)) (fun v _ => n - (intOf v).toNat)
      case atStart => exact ⟨i, rfl, hi, HD, HB⟩
      case round =>
        obtain ⟨i2, rfl, hi2, HD2, HB2⟩ := hrel
        by_cases hin : i2 < n
        · have HC1 := Lib.hid (HS.out wr i2 HB2.out hin)
          cases hst : star i2 with
          | true =>
            have HN := Lib.hid (HD2.out.trans (wildM_tail hin hst))
            rw [hst] at HC1
            clear hst
            go_wp2_with fail
            refine HC1.out.mono ?_
            rintro e w2 ⟨rfl, hb⟩
            have HB3 := Lib.hid (HB2.out.trans (hb.mono HB2.out.size))
            clear hb
            go_wp2
            go_roundw
            case rel => exact ⟨i2 + 1, by go_num, by omega, HN, HB3⟩
            case measure => simp [intOf]; omega
          | false =>
            have HN := Lib.hid (HD2.out.trans (wildM_left hin (by rw [hst]; simp)))
            rw [hst] at HC1
            clear hst
            have hq : ((i2 : Int) == (n : Int)) = false := by rw [beq_eq_false_iff_ne]; omega
            go_wp2_with fail
            refine HC1.out.mono ?_
            rintro e w2 ⟨rfl, hb⟩
            have HB3 := Lib.hid (HB2.out.trans (hb.mono HB2.out.size))
            clear hb
            go_wp2
            go_ret
            exact ⟨ret_b HN.out, HB3.out⟩
        · have hie : i2 = n := by omega
          have HN := Lib.hid (show wildM n k star fits 0 0 = true by rw [HD2.out, hie, wildM_last]; simp)
          have hq : ((i2 : Int) == (n : Int)) = true := by rw [hie]; simp
          clear hie
          go_wp2
          go_ret
          exact ⟨ret_b HN.out, HB2.out⟩
end Go.Proofs.YtecmcgedeaemgaaDoor
