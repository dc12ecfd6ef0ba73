/-
  Texts: TimeSpec, CutOne, MemRSpec.
-/
import Derived.Test.YtaffgndickdbiaaGreatDoorR14
import Derived.Test.YtaffgndickdbiaaGreatDoorR16
import Derived.Lib.AtoiAll
set_option linter.unusedVariables false
set_option linter.unusedSimpArgs false
set_option linter.unusedSectionVars false
namespace Go.Creel
open Go.RowKit
def isDig (c : UInt8) : Bool := decide (48 ≤ c.toNat ∧ c.toNat ≤ 57)
def decVal (l : List UInt8) : Nat := l.foldl (fun n c => 10 * n + (c.toNat - 48)) 0
theorem decVal_snoc (l : List UInt8) (c : UInt8) : decVal (l ++ [c]) = 10 * decVal l + (c.toNat - 48) := by simp [decVal]
theorem dig48 {x : Nat} (h : x < 10) : (UInt8.ofNat (48 + x)).toNat - 48 = x := by rw [dig_is x h]; omega
theorem dig48_is {x : Nat} (h : x < 10) : isDig (UInt8.ofNat (48 + x)) = true := by
  unfold isDig
  rw [dig_is x h]
  simp
  omega
theorem decVal_dec (u : Nat) : decVal (Lib.decDigits u) = u := by
  induction u using Nat.strongRecOn with
  | _ u ih =>
    rw [Lib.decDigits]
    by_cases h : u < 10
    · rw [dif_pos h]
      simp [decVal]
      omega
    · rw [dif_neg h, decVal_snoc, ih (u / 10) (by omega), dig48 (by omega)]
      omega
theorem dec_digs (u : Nat) : (Lib.decDigits u).all isDig = true := by
  induction u using Nat.strongRecOn with
  | _ u ih =>
    rw [Lib.decDigits]
    by_cases h : u < 10
    · rw [dif_pos h, List.all_cons, dig48_is h]
      rfl
    · rw [dif_neg h, List.all_append, ih (u / 10) (by omega)]
      rw [List.all_cons, dig48_is (Nat.mod_lt u (by decide : 0 < 10))]
      rfl
theorem decVal_rep (k : Nat) (l : List UInt8) : decVal (List.replicate k 48 ++ l) = decVal l := by
  induction k with
  | zero => rfl
  | succ k ih =>
    rw [List.replicate_succ, List.cons_append]
    unfold decVal at ih ⊢
    rw [List.foldl_cons]
    exact ih
theorem decVal_digs9 {N : Nat} (h : N < 10 ^ 9) : decVal (digs9 N 9) = N := by rw [← pad9 h, decVal_rep, decVal_dec]
theorem digs9_digs (N k : Nat) : (digs9 N k).all isDig = true := by
  rw [List.all_eq_true]
  intro c hc
  obtain ⟨i, _, rfl⟩ := List.mem_map.1 hc
  exact dig48_is (Nat.mod_lt _ (by decide))
def digitsP (l : List UInt8) (most : Nat) : Nat × Bool := if l.length < 1 ∨ most < l.length then (0, false) else if l.all isDig = true then (decVal l, true) else (0, false)
theorem digitsP_ok {l : List UInt8} {most : Nat} (h1 : 1 ≤ l.length) (h2 : l.length ≤ most) (h3 : l.all isDig = true) : digitsP l most = (decVal l, true) := by
  unfold digitsP
  rw [if_neg (by omega), if_pos h3]
def dotAt (l : List UInt8) : Nat := (l.takeWhile (· != 46)).length
structure Raw where
  below : Bool
  second : Nat
  nano : Nat
  ok : Bool
def restOf (l : List UInt8) : List UInt8 := if l.head? = some 45 then l.tail else l
def belowOf (l : List UInt8) : Bool := decide (l.head? = some 45)
def partPad (l : List UInt8) : List UInt8 := l ++ List.replicate (9 - l.length) 48
def rawP (l : List UInt8) : Raw :=
  if dotAt (restOf l) < (restOf l).length then
    ⟨belowOf l, (digitsP ((restOf l).take (dotAt (restOf l))) 13).1, (digitsP (partPad ((restOf l).drop (dotAt (restOf l) + 1))) 9).1, (digitsP ((restOf l).take (dotAt (restOf l))) 13).2 && (digitsP (partPad ((restOf l).drop (dotAt (restOf l) + 1))) 9).2⟩
  else ⟨belowOf l, (digitsP (restOf l) 13).1, 0, (digitsP (restOf l) 13).2⟩
def digCount : Nat → List UInt8 → Nat
  | 0, _ => 0
  | _, [] => 0
  | m + 1, c :: l => if isDig c = true then digCount m l + 1 else 0
theorem digCount_app {a b : List UInt8} {m : Nat} (h : a.all isDig = true) (hl : a.length ≤ m) (hb : ∀ c, b.head? = some c → isDig c = false) : digCount m (a ++ b) = a.length := by
  induction a generalizing m with
  | nil =>
    cases m with
    | zero => rfl
    | succ m =>
      cases b with
      | nil => rfl
      | cons c b =>
        have := hb c rfl
        simp [digCount, this]
  | cons c a ih =>
    cases m with
    | zero => simp at hl
    | succ m =>
      rw [List.all_cons, Bool.and_eq_true] at h
      rw [List.cons_append, digCount, if_pos h.1, ih h.2 (by simpa using hl)]
      rfl
def fracOf (l : List UInt8) : Nat := decVal (l.take (digCount 9 l)) * 10 ^ (9 - digCount 9 l)
def rawR (l : List UInt8) : Raw :=
  ⟨belowOf l, decVal ((restOf l).take (digCount 14 (restOf l))), if (restOf l)[digCount 14 (restOf l)]? = some 46 then fracOf ((restOf l).drop (digCount 14 (restOf l) + 1)) else 0, true⟩
def fixS (b : Bool) (s n : Nat) : Int := if b = true then (if 0 < n then -(s : Int) - 1 else -(s : Int)) else s
def fixN (b : Bool) (n : Nat) : Int := if b = true ∧ 0 < n then 1000000000 - (n : Int) else n
def timeAns (l : List UInt8) (r : Raw) : Int × Int × Int := if r.ok = true ∧ timeText (fixS r.below r.second r.nano) (fixN r.below r.nano) = (ofL l, 0) then (fixS r.below r.second r.nano, fixN r.below r.nano, 0) else (0, 0, 3)
theorem timeText_list {a b : Int} (h : timeFault a b = 0) : ∃ frac, (timeText a b).1 = ofL ((if a < 0 then [45] else []) ++ Lib.decDigits (timeS a b).toNat ++ frac) ∧ ((timeN a b = 0 ∧ frac = []) ∨ ∃ k, k ≤ 9 ∧ 0 < timeN a b ∧ timeN a b < 1000000000 ∧ (timeN a b).toNat % 10 ^ (9 - k) = 0 ∧ frac = 46 :: digs9 (timeN a b).toNat k) := by
  obtain ⟨h1, h2, h3, h4⟩ := timeFault_ok h
  have hS : Lib.itoa (timeS a b) = Lib.decDigits (timeS a b).toNat := by
    unfold Lib.itoa
    rw [if_neg (by unfold timeS; split <;> (try split) <;> omega)]
  have hH : timeHead a b = ofL ((if a < 0 then [45] else []) ++ Lib.decDigits (timeS a b).toNat) := by
    unfold timeHead timeSign
    rw [hS, ← ofL_append]
    congr 1
    split <;> rfl
  have hN : 0 ≤ timeN a b ∧ timeN a b < 1000000000 := by unfold timeN; split <;> omega
  unfold timeText
  rw [if_neg (by simpa using h)]
  by_cases h0 : timeN a b = 0
  · rw [if_pos h0]
    exact ⟨[], by simpa using hH, .inl ⟨h0, rfl⟩⟩
  · rw [if_neg h0]
    obtain ⟨k, hk, hk0, hk1⟩ : ∃ k, k ≤ 9 ∧ (timeN a b).toNat % 10 ^ (9 - k) = 0 ∧ (k = 0 ∨ (timeN a b).toNat % 10 ^ (10 - k) ≠ 0) := by
      generalize (timeN a b).toNat = N
      have : ∀ j, j ≤ 9 → N % 10 ^ (9 - j) = 0 → ∃ k, k ≤ 9 ∧ N % 10 ^ (9 - k) = 0 ∧ (k = 0 ∨ N % 10 ^ (10 - k) ≠ 0) := by
        intro j
        induction j with
        | zero => exact fun _ h => ⟨0, by omega, h, .inl rfl⟩
        | succ j ih =>
          intro hj hm
          by_cases hz : N % 10 ^ (9 - j) = 0
          · exact ih (by omega) hz
          · exact ⟨j + 1, hj, hm, .inr (by rw [show 10 - (j + 1) = 9 - j by omega]; exact hz)⟩
      exact this 9 (by omega) (by simp [Nat.mod_one])
    refine ⟨46 :: digs9 (timeN a b).toNat k, ?_, .inr ⟨k, hk, by omega, hN.2, hk0, rfl⟩⟩
    show timeHead a b ++ ofL [46] ++ ofL (Lib.trimRightB (digs9 (timeN a b).toNat 9) 48) = _
    rw [trim9 hk hk0 hk1, hH, ofL_append, ofL_append, List.append_assoc, List.append_assoc, List.append_assoc]
    simp
theorem dec_ne (u : Nat) : Lib.decDigits u ≠ [] := by
  intro h
  have h1 := Lib.decDigits_length u
  have h2 := Lib.nDigits_pos u
  rw [h] at h1
  simp at h1
  omega
theorem head_app_ne {a b : List UInt8} (h : a ≠ []) : (a ++ b).head? = a.head? := by cases a; exact absurd rfl h; rfl
theorem dec_head (u : Nat) : (Lib.decDigits u).head? ≠ some 45 := by
  intro h
  cases hd : Lib.decDigits u with
  | nil => rw [hd] at h; cases h
  | cons c l =>
    rw [hd] at h
    simp at h
    subst h
    have := dec_digs u
    rw [hd, List.all_cons, Bool.and_eq_true] at this
    exact absurd this.1 (by decide)
theorem rest_text (p : Prop) [Decidable p] {d f : List UInt8} (hd : d ≠ []) (h : d.head? ≠ some 45) : restOf ((if p then [45] else []) ++ d ++ f) = d ++ f ∧ belowOf ((if p then [45] else []) ++ d ++ f) = decide p := by
  by_cases hp : p
  · rw [if_pos hp]
    simp [restOf, belowOf, hp]
  · rw [if_neg hp]
    have : (d ++ f).head? ≠ some 45 := by rw [head_app_ne hd]; exact h
    simp only [List.nil_append]
    unfold restOf belowOf
    rw [if_neg this, decide_eq_false this, decide_eq_false hp]
    exact ⟨rfl, rfl⟩
theorem takeWhile_digs {a b : List UInt8} (h : a.all isDig = true) : (a ++ b).takeWhile (· != 46) = a ++ b.takeWhile (· != 46) := by
  apply List.takeWhile_append_of_pos
  intro c hc
  have := List.all_eq_true.1 h c hc
  by_cases e : c = 46
  · subst e; exact absurd this (by decide)
  · simpa using e
theorem dotAt_digs {a b : List UInt8} (h : a.all isDig = true) : dotAt (a ++ 46 :: b) = a.length := by
  unfold dotAt
  rw [takeWhile_digs h]
  simp
theorem dotAt_none {a : List UInt8} (h : a.all isDig = true) : dotAt a = a.length := by
  have := takeWhile_digs (b := []) h
  rw [List.append_nil] at this
  unfold dotAt
  rw [this]
  simp
theorem fracOf_digs {N k : Nat} (hk : k ≤ 9) (hN : N < 10 ^ 9) (h0 : N % 10 ^ (9 - k) = 0) : fracOf (digs9 N k) = N := by
  have hc := digCount_app (m := 9) (b := []) (digs9_digs N k) (by rw [digs9_len]; exact hk) (fun c hc => by cases hc)
  rw [List.append_nil, digs9_len] at hc
  unfold fracOf
  rw [hc, List.take_of_length_le (by rw [digs9_len]; omega)]
  have : ∀ j, j ≤ 9 → decVal (digs9 N j) = N / 10 ^ (9 - j) := by
    intro j
    induction j with
    | zero => intro _; rw [Nat.div_eq_of_lt (by simpa using hN)]; rfl
    | succ j ih =>
      intro hj
      rw [digs9_succ, decVal_snoc, ih (by omega)]
      have e : (dig9 N j).toNat - 48 = N / 10 ^ (8 - j) % 10 := by rw [dig9_toNat]; omega
      have e2 : 9 - j = (8 - j) + 1 := by omega
      have e3 : 9 - (j + 1) = 8 - j := by omega
      rw [e, e2, e3, Nat.pow_succ, ← Nat.div_div_eq_div_mul]
      omega
  rw [this k hk]
  exact Nat.div_mul_cancel (Nat.dvd_of_mod_eq_zero h0)
theorem partPad_digs {N k : Nat} (hk : k ≤ 9) (h0 : N % 10 ^ (9 - k) = 0) : partPad (digs9 N k) = digs9 N 9 := by
  unfold partPad
  rw [digs9_len]
  apply List.ext_getElem?
  intro i
  by_cases hi : i < k
  · rw [List.getElem?_append_left (by rw [digs9_len]; exact hi), digs9_at N hi, digs9_at N (by omega)]
  · rw [List.getElem?_append_right (by rw [digs9_len]; omega), digs9_len]
    by_cases hi9 : i < 9
    · rw [digs9_at N hi9, List.getElem?_replicate, if_pos (by omega)]
      obtain ⟨q, rfl⟩ := Nat.dvd_of_mod_eq_zero h0
      have e1 : 9 - k = (8 - i) + ((i - k) + 1) := by omega
      have : 10 ^ (9 - k) * q / 10 ^ (8 - i) % 10 = 0 := by
        rw [e1, Nat.pow_add, Nat.mul_assoc, Nat.mul_div_cancel_left _ (Nat.pos_of_ne_zero (by simp)), Nat.pow_succ, Nat.mul_comm (10 ^ (i - k)) 10, Nat.mul_assoc, Nat.mul_mod_right]
      unfold dig9
      rw [this]
      rfl
    · rw [List.getElem?_replicate, if_neg (by omega), List.getElem?_eq_none (by rw [digs9_len]; omega)]
theorem fix_is {a b : Int} (h : timeFault a b = 0) : fixS (decide (a < 0)) (timeS a b).toNat (timeN a b).toNat = a ∧ fixN (decide (a < 0)) (timeN a b).toNat = b := by
  obtain ⟨h1, h2, h3, h4⟩ := timeFault_ok h
  unfold fixS fixN timeS timeN
  by_cases ha : a < 0
  · by_cases hb : 0 < b
    · simp [ha, hb]
      constructor
      · rw [if_pos (by omega)]; omega
      · omega
    · have : b = 0 := by omega
      subst this
      simp [ha]
      omega
  · simp [ha]
    omega
theorem raw_both {a b : Int} (h : timeFault a b = 0) {l : List UInt8} (hl : (timeText a b).1 = ofL l) :
    (rawP l).below = decide (a < 0) ∧ (rawP l).second = (timeS a b).toNat ∧ (rawP l).nano = (timeN a b).toNat ∧ (rawP l).ok = true ∧
    (rawR l).below = decide (a < 0) ∧ (rawR l).second = (timeS a b).toNat ∧ (rawR l).nano = (timeN a b).toNat := by
  obtain ⟨h1, h2, h3, h4⟩ := timeFault_ok h
  obtain ⟨f, hf, hcase⟩ := timeText_list h
  have hl2 : l = (if a < 0 then [45] else []) ++ Lib.decDigits (timeS a b).toNat ++ f := by
    rw [hf] at hl
    have := congrArg (fun s : ByteArray => s.data.toList) hl
    simpa [ofL] using this.symm
  have hS0 : 0 ≤ timeS a b ∧ timeS a b ≤ 1099511627776 := by unfold timeS; split <;> (try split) <;> omega
  have hlen : (Lib.decDigits (timeS a b).toNat).length ≤ 13 := by
    rw [Lib.decDigits_length]
    exact nDigits_le 12 _ (by have : (10:Nat) ^ 13 = 10000000000000 := by decide
                              omega)
  have hne := dec_ne (timeS a b).toNat
  have hd := dec_digs (timeS a b).toNat
  have hv := decVal_dec (timeS a b).toNat
  obtain ⟨hr, hb⟩ := rest_text (a < 0) (f := f) hne (dec_head (timeS a b).toNat)
  rw [← hl2] at hr hb
  have hpos : 1 ≤ (Lib.decDigits (timeS a b).toNat).length := by
    rcases Nat.eq_zero_or_pos (Lib.decDigits (timeS a b).toNat).length with h | h
    · exact absurd (List.eq_nil_of_length_eq_zero h) hne
    · exact h
  generalize Lib.decDigits (timeS a b).toNat = d at *
  rcases hcase with ⟨hN, rfl⟩ | ⟨k, hk, hN0, hN1, hk0, rfl⟩
  · rw [List.append_nil] at hr
    have e1 := dotAt_none hd
    have e2 := digCount_app (m := 14) (b := []) hd (by omega) (fun c hc => by cases hc)
    rw [List.append_nil] at e2
    have e3 := digitsP_ok hpos hlen hd
    unfold rawP rawR
    rw [hr, hb, e1, e2, if_neg (by omega), e3, hv, hN, List.take_of_length_le (Nat.le_refl _), hv, List.getElem?_eq_none (Nat.le_refl _)]
    exact ⟨rfl, rfl, rfl, rfl, rfl, rfl, rfl⟩
  · have e1 := dotAt_digs (b := digs9 (timeN a b).toNat k) hd
    have e2 := digCount_app (m := 14) (b := 46 :: digs9 (timeN a b).toNat k) hd (by omega) (fun c hc => by simp at hc; subst hc; decide)
    have e3 := digitsP_ok hpos hlen hd
    have hN9 : (timeN a b).toNat < 10 ^ 9 := by have : (10:Nat) ^ 9 = 1000000000 := by decide
                                                omega
    have e4 : digitsP (digs9 (timeN a b).toNat 9) 9 = ((timeN a b).toNat, true) := by
      rw [digitsP_ok (by rw [digs9_len]; omega) (by rw [digs9_len]; omega) (digs9_digs _ _), decVal_digs9 hN9]
    have e5 : (d ++ 46 :: digs9 (timeN a b).toNat k).drop (d.length + 1) = digs9 (timeN a b).toNat k := by
      rw [List.drop_append]
      simp
    have e6 : (d ++ 46 :: digs9 (timeN a b).toNat k)[d.length]? = some 46 := by
      rw [List.getElem?_append_right (Nat.le_refl _)]
      simp
    unfold rawP rawR
    rw [hr, hb, e1, e2, if_pos (by simp), e5, List.take_left, e3, hv, partPad_digs hk hk0, e4, e6, if_pos rfl, fracOf_digs hk hN9 hk0]
    exact ⟨rfl, rfl, rfl, rfl, rfl, rfl, rfl⟩
theorem timeText_fault {a b : Int} {s : ByteArray} (h : timeText a b = (s, 0)) : timeFault a b = 0 := by
  refine Classical.byContradiction fun hn => ?_
  unfold timeText at h
  rw [if_pos hn] at h
  exact hn (congrArg Prod.snd h)
theorem time_both (l : List UInt8) : timeAns l (rawP l) = timeAns l (rawR l) := by
  have hRok : (rawR l).ok = true := rfl
  have key : ∀ a b, timeText a b = (ofL l, 0) → timeAns l (rawP l) = (a, b, 0) ∧ timeAns l (rawR l) = (a, b, 0) := by
    intro a b h
    have h0 := timeText_fault h
    obtain ⟨p1, p2, p3, p4, r1, r2, r3⟩ := raw_both (l := l) h0 (by rw [h])
    obtain ⟨f1, f2⟩ := fix_is h0
    unfold timeAns
    rw [p1, p2, p3, p4, r1, r2, r3, hRok, f1, f2, if_pos ⟨rfl, h⟩]
    exact ⟨rfl, rfl⟩
  by_cases hp : (rawP l).ok = true ∧ timeText (fixS (rawP l).below (rawP l).second (rawP l).nano) (fixN (rawP l).below (rawP l).nano) = (ofL l, 0)
  · obtain ⟨k1, k2⟩ := key _ _ hp.2
    rw [k1, k2]
  · by_cases hr : (rawR l).ok = true ∧ timeText (fixS (rawR l).below (rawR l).second (rawR l).nano) (fixN (rawR l).below (rawR l).nano) = (ofL l, 0)
    · obtain ⟨k1, k2⟩ := key _ _ hr.2
      rw [k1, k2]
    · unfold timeAns
      rw [if_neg hp, if_neg hr]
def joinS (p n : ByteArray) : ByteArray := if p.size = 0 then n else p ++ ofL [47] ++ n
open Classical in
noncomputable def cutOne (p n : ByteArray) : ByteArray × Int :=
  if n.size = 0 ∨ 100 < n.size ∨ 155 < p.size then (ByteArray.empty, 1)
  else if cutTwo (joinS p n) = (p, n, 0) then (joinS p n, 0) else (ByteArray.empty, 3)
theorem cutOne_size {p n : ByteArray} (h : n.size = 0 ∨ 100 < n.size ∨ 155 < p.size) : cutOne p n = (ByteArray.empty, 1) := by unfold cutOne; rw [if_pos h]
theorem cutOne_yes {p n : ByteArray} (h : ¬ (n.size = 0 ∨ 100 < n.size ∨ 155 < p.size)) (h2 : cutTwo (joinS p n) = (p, n, 0)) : cutOne p n = (joinS p n, 0) := by unfold cutOne; rw [if_neg h, if_pos h2]
theorem cutOne_no {p n : ByteArray} (h : ¬ (n.size = 0 ∨ 100 < n.size ∨ 155 < p.size)) (h2 : cutTwo (joinS p n) ≠ (p, n, 0)) : cutOne p n = (ByteArray.empty, 3) := by unfold cutOne; rw [if_neg h, if_neg h2]
theorem sneC_t {a b : ByteArray} (h : a ≠ b) : (!(a.toList == b.toList)) = true := by rw [seq_f h]; rfl
theorem sneC_f {a b : ByteArray} (h : a = b) : (!(a.toList == b.toList)) = false := by rw [seq_t h]; rfl
end Go.Creel
namespace Go.Proofs.YtaffgndickdbiaaGreatDoor
open Go.Creel Go.RowKit
set_option maxRecDepth 100000 in
set_option maxHeartbeats 2000000 in
theorem One_any (p n : ByteArray) (w : World) (hp : p.size ≤ maxLen) (hn : n.size ≤ maxLen) :
    Calls Tryz.prog 124 #[.string p, .string n] w fun e w' => e = .returned (.tuple #[.string (cutOne p n).1, .int .i64 (cutOne p n).2]) ∧ Below w.heap.size w w' := by
  unfold maxLen at hp hn
  by_cases h : n.size = 0 ∨ 100 < n.size ∨ 155 < p.size
  · have HF := Lib.hid (cutOne_size h)
    rcases (show n.size = 0 ∨ (1 ≤ n.size ∧ 100 < n.size) ∨ (1 ≤ n.size ∧ n.size ≤ 100 ∧ 155 < p.size) by omega) with h1 | ⟨h1, h2⟩ | ⟨h1, h2, h3⟩
    · have he := empty_t h1
      have h1' : ((n.size : Int) < 1) := by omega
      clear h h1
      go_enter Tryz.func124, Tryz.ntmps124
      go_wp2
      go_ret2
      exact ⟨ret_si HF.out, Below.refl _ _⟩
    all_goals
      have he := empty_f (a := n) (by omega)
      clear h
      go_enter Tryz.func124, Tryz.ntmps124
      go_wp2
      go_ret2
      exact ⟨ret_si HF.out, Below.refl _ _⟩
  · have h1 : 1 ≤ n.size := by omega
    have h2 : n.size ≤ 100 := by omega
    have h3 : p.size ≤ 155 := by omega
    have hen := empty_f (a := n) (by omega)
    have HN := Lib.hid h
    clear h
    have key : ∀ (s : ByteArray) (w : World), joinS p n = s → s.size ≤ 256 → Calls Tryz.prog 90 #[.string s] w fun e w' => Below w.heap.size w w' ∧ ∃ a b e0, e = .returned (.tuple #[.string a, .string b, .int .i64 e0]) ∧
        ((e0 = 0 ∧ a = p ∧ b = n ∧ Hid (cutOne p n = (s, 0))) ∨ (¬ (e0 = 0 ∧ a = p ∧ b = n) ∧ Hid (cutOne p n = (ByteArray.empty, 3)))) := by
      intro s w hs hsz
      refine (Two_any s w (by unfold maxLen; omega)).mono ?_
      rintro e w' ⟨rfl, hb⟩
      refine ⟨hb, _, _, _, rfl, ?_⟩
      subst hs
      by_cases hc : cutTwo (joinS p n) = (p, n, 0)
      · left
        rw [hc]
        exact ⟨rfl, rfl, rfl, cutOne_yes HN.out hc⟩
      · right
        exact ⟨fun ⟨a, b, c⟩ => hc (Prod.ext b (Prod.ext c a)), cutOne_no HN.out hc⟩
    have KEY := Lib.hid key
    clear key
    by_cases h0 : p.size = 0
    · have hj : joinS p n = n := by unfold joinS; rw [if_pos h0]
      have HJ := Lib.hid hj
      have he := empty_t h0
      have he2 : (!p.toList.isEmpty) = false := by rw [he]; rfl
      clear h0 hj
      go_enter Tryz.func124, Tryz.ntmps124
      go_wp2_with fail
      refine (KEY.out n _ HJ.out (by omega)).mono ?_
      rintro e w' ⟨hb, a, b, e0, rfl, ⟨rfl, rfl, rfl, HF⟩ | ⟨hno, HF⟩⟩
      · have HB := Lib.hid hb
        clear hb
        go_wp2
        go_ret2
        exact ⟨ret_si HF.out, HB.out⟩
      · have HB := Lib.hid hb
        have HNO := Lib.hid hno
        clear hb hno
        by_cases c1 : e0 = 0
        · have d1 : (e0 != 0) = false := by simp [c1]
          by_cases c2 : a = p
          · have d2 := sneC_f c2
            have c3 : b ≠ n := fun c3 => HNO.out ⟨c1, c2, c3⟩
            have d3 := sneC_t c3
            clear c1 c2 c3
            go_wp2
            go_ret2
            exact ⟨ret_si HF.out, HB.out⟩
          · have d2 := sneC_t c2
            clear c1 c2
            go_wp2
            go_ret2
            exact ⟨ret_si HF.out, HB.out⟩
        · have d1 : (e0 != 0) = true := by simpa using c1
          clear c1
          go_wp2
          go_ret2
          exact ⟨ret_si HF.out, HB.out⟩
    · have hj : joinS p n = p ++ ofL [47] ++ n := by unfold joinS; rw [if_neg h0]
      have HJ := Lib.hid hj
      have he := empty_f h0
      have he2 : (!p.toList.isEmpty) = true := by rw [he]; rfl
      have HZ := Lib.hid (show (p ++ ofL [47] ++ n).size ≤ 256 by simp [ofL_size]; omega)
      clear h0 hj
      go_enter Tryz.func124, Tryz.ntmps124
      go_wp2_with fail
      refine (KEY.out _ _ (by exact HJ.out) (by exact HZ.out)).mono ?_
      rintro e w' ⟨hb, a, b, e0, rfl, ⟨rfl, rfl, rfl, HF⟩ | ⟨hno, HF⟩⟩
      · have HB := Lib.hid hb
        clear hb
        go_wp2
        go_ret2
        exact ⟨ret_si HF.out, HB.out⟩
      · have HB := Lib.hid hb
        have HNO := Lib.hid hno
        clear hb hno
        by_cases c1 : e0 = 0
        · have d1 : (e0 != 0) = false := by simp [c1]
          by_cases c2 : a = p
          · have d2 := sneC_f c2
            have c3 : b ≠ n := fun c3 => HNO.out ⟨c1, c2, c3⟩
            have d3 := sneC_t c3
            clear c1 c2 c3
            go_wp2
            go_ret2
            exact ⟨ret_si HF.out, HB.out⟩
          · have d2 := sneC_t c2
            clear c1 c2
            go_wp2
            go_ret2
            exact ⟨ret_si HF.out, HB.out⟩
        · have d1 : (e0 != 0) = true := by simpa using c1
          clear c1
          go_wp2
          go_ret2
          exact ⟨ret_si HF.out, HB.out⟩
set_option maxRecDepth 100000 in
set_option maxHeartbeats 2000000 in
theorem CutOne_any (p n : ByteArray) (w : World) (hp : p.size ≤ maxLen) (hn : n.size ≤ maxLen) :
    Calls Tryz.prog 56 #[.string p, .string n] w fun e w' => e = .returned (.tuple #[.string (cutOne p n).1, .int .i64 (cutOne p n).2]) ∧ Below w.heap.size w w' := by
  unfold maxLen at hp hn
  by_cases h : n.size = 0 ∨ 100 < n.size ∨ 155 < p.size
  · have HF := Lib.hid (cutOne_size h)
    rcases (show n.size = 0 ∨ (1 ≤ n.size ∧ 100 < n.size) ∨ (1 ≤ n.size ∧ n.size ≤ 100 ∧ 155 < p.size) by omega) with h1 | ⟨h1, h2⟩ | ⟨h1, h2, h3⟩
    · have he := empty_t h1
      have h1' : ((n.size : Int) < 1) := by omega
      clear h h1
      go_enter Tryz.func56, Tryz.ntmps56
      go_wp2
      go_ret2
      exact ⟨ret_si HF.out, Below.refl _ _⟩
    all_goals
      have he := empty_f (a := n) (by omega)
      clear h
      go_enter Tryz.func56, Tryz.ntmps56
      go_wp2
      go_ret2
      exact ⟨ret_si HF.out, Below.refl _ _⟩
  · have h1 : 1 ≤ n.size := by omega
    have h2 : n.size ≤ 100 := by omega
    have h3 : p.size ≤ 155 := by omega
    have hen := empty_f (a := n) (by omega)
    have HN := Lib.hid h
    clear h
    have key : ∀ (s : ByteArray) (w : World), joinS p n = s → s.size ≤ 256 → Calls Tryz.prog 100 #[.string s] w fun e w' => Below w.heap.size w w' ∧ ∃ a b e0, e = .returned (.tuple #[.string a, .string b, .int .i64 e0]) ∧
        ((e0 = 0 ∧ a = p ∧ b = n ∧ Hid (cutOne p n = (s, 0))) ∨ (¬ (e0 = 0 ∧ a = p ∧ b = n) ∧ Hid (cutOne p n = (ByteArray.empty, 3)))) := by
      intro s w hs hsz
      refine (CutTwo_any s w (by unfold maxLen; omega)).mono ?_
      rintro e w' ⟨rfl, hb⟩
      refine ⟨hb, _, _, _, rfl, ?_⟩
      subst hs
      by_cases hc : cutTwo (joinS p n) = (p, n, 0)
      · left
        rw [hc]
        exact ⟨rfl, rfl, rfl, cutOne_yes HN.out hc⟩
      · right
        exact ⟨fun ⟨a, b, c⟩ => hc (Prod.ext b (Prod.ext c a)), cutOne_no HN.out hc⟩
    have KEY := Lib.hid key
    clear key
    by_cases h0 : p.size = 0
    · have hj : joinS p n = n := by unfold joinS; rw [if_pos h0]
      have HJ := Lib.hid hj
      have he := empty_t h0
      have he2 : (!p.toList.isEmpty) = false := by rw [he]; rfl
      clear h0 hj
      go_enter Tryz.func56, Tryz.ntmps56
      go_wp2_with fail
      refine (KEY.out n _ HJ.out (by omega)).mono ?_
      rintro e w' ⟨hb, a, b, e0, rfl, ⟨rfl, rfl, rfl, HF⟩ | ⟨hno, HF⟩⟩
      · have HB := Lib.hid hb
        clear hb
        go_wp2
        go_ret2
        exact ⟨ret_si HF.out, HB.out⟩
      · have HB := Lib.hid hb
        have HNO := Lib.hid hno
        clear hb hno
        by_cases c1 : e0 = 0
        · have d1 : (e0 != 0) = false := by simp [c1]
          by_cases c2 : a = p
          · have d2 := sneC_f c2
            have c3 : b ≠ n := fun c3 => HNO.out ⟨c1, c2, c3⟩
            have d3 := sneC_t c3
            clear c1 c2 c3
            go_wp2
            go_ret2
            exact ⟨ret_si HF.out, HB.out⟩
          · have d2 := sneC_t c2
            clear c1 c2
            go_wp2
            go_ret2
            exact ⟨ret_si HF.out, HB.out⟩
        · have d1 : (e0 != 0) = true := by simpa using c1
          clear c1
          go_wp2
          go_ret2
          exact ⟨ret_si HF.out, HB.out⟩
    · have hj : joinS p n = p ++ ofL [47] ++ n := by unfold joinS; rw [if_neg h0]
      have HJ := Lib.hid hj
      have he := empty_f h0
      have he2 : (!p.toList.isEmpty) = true := by rw [he]; rfl
      have HZ := Lib.hid (show (p ++ ofL [47] ++ n).size ≤ 256 by simp [ofL_size]; omega)
      clear h0 hj
      go_enter Tryz.func56, Tryz.ntmps56
      go_wp2_with fail
      refine (KEY.out _ _ (by exact HJ.out) (by exact HZ.out)).mono ?_
      rintro e w' ⟨hb, a, b, e0, rfl, ⟨rfl, rfl, rfl, HF⟩ | ⟨hno, HF⟩⟩
      · have HB := Lib.hid hb
        clear hb
        go_wp2
        go_ret2
        exact ⟨ret_si HF.out, HB.out⟩
      · have HB := Lib.hid hb
        have HNO := Lib.hid hno
        clear hb hno
        by_cases c1 : e0 = 0
        · have d1 : (e0 != 0) = false := by simp [c1]
          by_cases c2 : a = p
          · have d2 := sneC_f c2
            have c3 : b ≠ n := fun c3 => HNO.out ⟨c1, c2, c3⟩
            have d3 := sneC_t c3
            clear c1 c2 c3
            go_wp2
            go_ret2
            exact ⟨ret_si HF.out, HB.out⟩
          · have d2 := sneC_t c2
            clear c1 c2
            go_wp2
            go_ret2
            exact ⟨ret_si HF.out, HB.out⟩
        · have d1 : (e0 != 0) = true := by simpa using c1
          clear c1
          go_wp2
          go_ret2
          exact ⟨ret_si HF.out, HB.out⟩
end Go.Proofs.YtaffgndickdbiaaGreatDoor
namespace Go.Creel
open Go.RowKit
noncomputable def head512 (b : List UInt8) : HeadN × Int := headOf (ofL (b.take 512))
theorem octOf_rng (s : ByteArray) : 0 ≤ (octOf s).1 ∧ (octOf s).1 < 8589934592 := by
  unfold octOf
  split
  · split
    · rename_i h1 h2
      have h3 := oval_lt s (s.size - 1) h2.1
      have h8 : 8 ^ (s.size - 1) ≤ 8 ^ 11 := Nat.pow_le_pow_right (by decide) (by omega)
      have e : (8 : Nat) ^ 11 = 8589934592 := by decide
      simp only; omega
    · simp
  · simp
theorem headOf_cases (s : ByteArray) : (headOf s).1 = headNone ∨ (headOf s).1 = headFields s := by
  unfold headOf
  split
  · exact .inl rfl
  · split
    · exact .inl rfl
    · split
      · exact .inl rfl
      · exact .inr rfl
set_option maxRecDepth 100000 in
theorem head512_size (b : List UInt8) : 0 ≤ (head512 b).1.size ∧ (head512 b).1.size < 8589934592 := by
  unfold head512
  generalize ofL (b.take 512) = s
  rcases headOf_cases s with e | e <;> rw [e]
  · simp [headNone]
  · simp only [headFields]
    have h := octOf_rng (s.extract 124 136)
    generalize octOf (s.extract 124 136) = p at *
    exact h
noncomputable def blockOf (b : List UInt8) : HeadN × List UInt8 × List UInt8 × Int :=
  if b.length < 512 then (headNone, [], [], 7)
  else if ¬ (head512 b).2 = 0 then (headNone, [], [], (head512 b).2)
  else ((head512 b).1, padCut (b.drop 512) (head512 b).1.size)
theorem blockOf_short {b : List UInt8} (h : b.length < 512) : blockOf b = (headNone, [], [], 7) := if_pos h
theorem blockOf_head {b : List UInt8} (h : ¬ b.length < 512) (h2 : ¬ (head512 b).2 = 0) : blockOf b = (headNone, [], [], (head512 b).2) := by unfold blockOf; rw [if_neg h, if_pos h2]
theorem blockOf_cut {b : List UInt8} (h : ¬ b.length < 512) (h2 : (head512 b).2 = 0) : blockOf b = ((head512 b).1, padCut (b.drop 512) (head512 b).1.size) := by unfold blockOf; rw [if_neg h, if_neg (by simpa using h2)]
noncomputable def firstOf (b : List UInt8) : HeadN × List UInt8 × Int × Int :=
  if (blockOf b).2.2.2 = 0 then ((blockOf b).1, (blockOf b).2.1, ((512 + (padFill (blockOf b).2.1).length : Nat) : Int), 0) else (headNone, [], 0, (blockOf b).2.2.2)
theorem padCut_ok {l : List UInt8} {n : Int} (h : (padCut l n).2.2 = 0) : (padFill (padCut l n).1).length + (padCut l n).2.1.length = l.length ∧ (padFill (padCut l n).1).length ≤ l.length ∧ (padCut l n).2.1 = l.drop (padFill (padCut l n).1).length := by
  unfold padCut at h ⊢
  split at h
  · cases h
  · split at h
    · cases h
    · split at h
      · rename_i h1 h2 h3
        rw [if_neg h1, if_neg h2, if_pos h3]
        have hl : (padFill (l.take n.toNat)).length = (n.toNat + 511) / 512 * 512 := by
          unfold padFill padLack
          rw [List.length_append, List.length_replicate, List.length_take]
          omega
        simp only [hl, List.length_drop]
        refine ⟨by omega, by omega, trivial⟩
      · cases h
theorem blockOf_ok {b : List UInt8} (h : (blockOf b).2.2.2 = 0) : 512 + (padFill (blockOf b).2.1).length + (blockOf b).2.2.1.length = b.length ∧ (blockOf b).2.2.1 = b.drop (512 + (padFill (blockOf b).2.1).length) := by
  by_cases h1 : b.length < 512
  · rw [blockOf_short h1] at h; cases h
  · by_cases h2 : (head512 b).2 = 0
    · rw [blockOf_cut h1 h2] at h ⊢
      obtain ⟨a1, a2, a3⟩ := padCut_ok h
      simp only
      rw [List.length_drop] at a1
      refine ⟨by omega, ?_⟩
      rw [a3, List.drop_drop]
    · rw [blockOf_head h1 h2] at h; exact absurd h h2
theorem padCut_small {l : List UInt8} {n : Int} : (padCut l n).1.length ≤ l.length ∧ (padCut l n).2.1.length ≤ l.length := by
  unfold padCut
  split
  · simp
  · split
    · simp
    · split
      · simp only [List.length_take, List.length_drop]; omega
      · simp
end Go.Creel
