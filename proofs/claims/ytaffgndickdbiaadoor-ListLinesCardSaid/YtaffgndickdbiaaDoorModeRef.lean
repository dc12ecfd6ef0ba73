/-
  The reference of meta.Text.
-/
import Derived.Test.YtaffgndickdbiaaDoorMode
import Derived.Deep.Cut
import Derived.Test.YtaffgndickdbiaaDoorPower
import Derived.Test.YtaffgndickdbiaaDoorMap
namespace Go.Creel
set_option linter.unusedVariables false
open Go.RowKit
def triL (t : Nat) : List UInt8 := [if t / 4 % 2 = 0 then 45 else 114, if t / 2 % 2 = 0 then 45 else 119, if t % 2 = 0 then 45 else 120]
theorem tri_cell (ty : TypeId) (w : World) {t : Nat} (h : t < 8) : (w.alloc (.cells #[.string ⟨#[45, 45, 45]⟩, .string ⟨#[45, 45, 120]⟩, .string ⟨#[45, 119, 45]⟩, .string ⟨#[45, 119, 120]⟩, .string ⟨#[114, 45, 45]⟩, .string ⟨#[114, 45, 120]⟩, .string ⟨#[114, 119, 45]⟩, .string ⟨#[114, 119, 120]⟩] ty)).cell? ⟨w.heap.size, t, none⟩ = some (.string (ofL (triL t))) := by
  match t, h with
  | 0, _ | 1, _ | 2, _ | 3, _ | 4, _ | 5, _ | 6, _ | 7, _ => simp [World.cell?_alloc_new, triL, ofL]
theorem mode_step (m : Nat) {d : Nat} (hd : d < 3) : (modeL m).take (3 * (d + 1)) = (modeL m).take (3 * d) ++ [modeC m (3 * d), modeC m (3 * d + 1), modeC m (3 * d + 2)] := by
  match d, hd with
  | 0, _ | 1, _ | 2, _ => rfl
theorem mode_chunk0 (m : Nat) {d : Nat} (hd : d < 3) (h : m / 512 / 2 ^ (2 - d) % 2 = 0) : [modeC m (3 * d), modeC m (3 * d + 1), modeC m (3 * d + 2)] = triL (m / 8 ^ (2 - d) % 8) := by
  have h2 : ¬ (m / 2 ^ (9 + (2 - d)) % 2 = 1) := by
    intro e
    rw [Nat.pow_add, ← Nat.div_div_eq_div_mul, show (2 : Nat) ^ 9 = 512 from rfl] at e
    omega
  unfold modeC
  rw [if_neg (by omega), if_neg (by omega), if_neg (by rw [show (8 - (3 * d + 2)) / 3 = 2 - d by omega]; omega)]
  unfold permC triL rwx
  match d, hd with
  | 0, _ | 1, _ | 2, _ =>
    simp only [Nat.reduceMul, Nat.reduceAdd, Nat.reduceSub, Nat.reducePow, Nat.reduceMod, Nat.pow_zero, Nat.div_one]
    congr 1
    · congr 1
      apply propext; omega
    · congr 1
      · congr 1
        apply propext; omega
      · congr 2
        apply propext; omega
theorem mode_chunk1 (m : Nat) {d : Nat} (hd : d < 3) (h : m / 512 / 2 ^ (2 - d) % 2 = 1) : [modeC m (3 * d), modeC m (3 * d + 1), modeC m (3 * d + 2)] = (triL (m / 8 ^ (2 - d) % 8)).take 2 ++ [if m / 8 ^ (2 - d) % 8 % 2 = 0 then (if d = 2 then 84 else 83) else (if d = 2 then 116 else 115)] := by
  have h2 : m / 2 ^ (9 + (2 - d)) % 2 = 1 := by
    rw [Nat.pow_add, ← Nat.div_div_eq_div_mul]; exact h
  unfold modeC
  rw [if_neg (by omega), if_neg (by omega), if_pos ⟨by omega, by rw [show (8 - (3 * d + 2)) / 3 = 2 - d by omega]; exact h2⟩]
  unfold signC permC triL rwx
  clear h h2
  match d, hd with
  | 0, _ | 1, _ | 2, _ =>
    simp only [Nat.reduceMul, Nat.reduceAdd, Nat.reduceSub, Nat.reducePow, Nat.reduceMod, Nat.pow_zero, Nat.div_one, List.take, List.cons_append, List.nil_append]
    congr 1
    · congr 1
      apply propext; omega
    · congr 1
      · congr 1
        apply propext; omega
      · congr 1
        have hx : ∀ (c : Prop) [Decidable c] (x : UInt8), x ≠ 45 → ((if c then (45 : UInt8) else x) = 45 ↔ c) := by
          intro c _ x hx
          by_cases hc : c <;> simp [hc, hx]
        simp only [List.getD_cons_succ, List.getD_cons_zero]
        simp only [hx _ (120 : UInt8) (by decide)]
        congr 1
        apply propext; omega
theorem modeL_len (m : Nat) : (modeL m).length = 9 := by simp [modeL]
theorem cut_last (l : List UInt8) (t : Nat) {n : Nat} (hn : n = l.length + 2) (c : UInt8) : (ofL l ++ ofL (triL t)).extract 0 n ++ ofL [c] = ofL (l ++ ((triL t).take 2 ++ [c])) := by
  subst hn
  rw [ofL_append, ofL_extract, ofL_append]
  congr 1
  rw [List.drop_zero, Nat.sub_zero, List.take_length_add_append, List.append_assoc]
end Go.Creel
namespace Go.Proofs.YtaffgndickdbiaaDoor
set_option linter.unusedVariables false
set_option linter.unusedSimpArgs false
open Go.Creel Go.RowKit
set_option maxRecDepth 100000 in
set_option maxHeartbeats 2000000 in
theorem RefMode_in (m : Nat) (w : World) (h1 : m ≤ 4095) :
    Calls Tryd.prog 60 #[.int .i64 m] w fun e w' => e = .returned (.tuple #[.string (ofL (modeL m)), .int .i64 0]) ∧ Below w.heap.size w w' := by
  have hmm := @run_makeMap Tryd.prog
  have m1 := fun (w : World) (o : Obj) => map_put_new (P := Tryd.prog) keyOn_str Tryd.underlying117 Tryd.underlying9 #[] 0 ⟨#[115]⟩ (.string ⟨#[83]⟩) rfl (w.alloc o)
  have m2 := fun (w : World) (o : Obj) => map_put_new (P := Tryd.prog) keyOn_str Tryd.underlying117 Tryd.underlying9 #[⟨.string ⟨#[115]⟩, .string ⟨#[83]⟩, 0⟩] 1 ⟨#[116]⟩ (.string ⟨#[84]⟩) rfl (w.alloc o)
  have m3 := fun (w : World) (o : Obj) => map_look_new (P := Tryd.prog) keyOn_str Tryd.underlying117 Tryd.underlying9 #[⟨.string ⟨#[115]⟩, .string ⟨#[83]⟩, 0⟩, ⟨.string ⟨#[116]⟩, .string ⟨#[84]⟩, 1⟩] 2 ⟨#[115]⟩ 0 (.string ⟨#[83]⟩) rfl (w.alloc o)
  have m4 := fun (w : World) (o : Obj) => map_look_new (P := Tryd.prog) keyOn_str Tryd.underlying117 Tryd.underlying9 #[⟨.string ⟨#[115]⟩, .string ⟨#[83]⟩, 0⟩, ⟨.string ⟨#[116]⟩, .string ⟨#[84]⟩, 1⟩] 2 ⟨#[116]⟩ 1 (.string ⟨#[84]⟩) rfl (w.alloc o)
  have hsz : ∀ (w : World) (o : Obj), (w.alloc o).heap.size = w.heap.size + 1 := by intro w o; simp
  simp only [hsz, List.push_toArray, List.nil_append, List.cons_append, Nat.reduceAdd] at m1 m2 m3 m4
  clear hsz
  go_enter Tryd.func60, Tryd.ntmps60
  go_wp2_with fail
  go_loopw [4, 5, 6, 7, 8] (fun s k _ _ _ wr => ∃ (d : Nat) (i : Int), d ≤ 3 ∧ i + d = 2 ∧ k = .int .i64 i ∧ s = .string (ofL ((modeL m).take (3 * d))) ∧ Hid (Below w.heap.size w wr)) (fun _ k _ _ _ _ => (intOf k + 1).toNat)
  case atStart => exact ⟨0, 2, by omega, by omega, rfl, rfl, Lib.hid (Below.refl _ _)⟩
  case round =>
    obtain ⟨d, i, hd, hi, rfl, rfl, HB⟩ := hrel
    by_cases hlt : d < 3
    · have HST := Lib.hid (mode_step m hlt)
      have hsz : ((modeL m).take (3 * d)).length = 3 * d := by rw [List.length_take, modeL_len]; omega
      have hs1 : (ofL ((modeL m).take (3 * d))).size ≤ 3 * d := by rw [ofL_size]; omega
      have hs2 : 3 * d ≤ (ofL ((modeL m).take (3 * d))).size := by rw [ofL_size]; omega
      have HSZ := Lib.hid hsz
      clear hsz
      have h0 := fun h => mode_chunk0 m hlt h
      have h1' := fun h => mode_chunk1 m hlt h
      generalize hL : (modeL m).take (3 * d) = l at *
      clear hL
      rcases (show d = 0 ∨ d = 1 ∨ d = 2 by omega) with rfl | rfl | rfl
      · obtain rfl : i = 2 := by omega
        simp only [Nat.reduceMul, Nat.reduceAdd, Nat.reduceSub, Nat.reducePow, Nat.pow_zero, Nat.div_one] at h0 h1' HST hs1 hs2 HSZ
        have ht : m / 64 % 8 < 8 := by omega
        have hc := tri_cell 9 wr ht
        have htz1 : (ofL (triL (m / 64 % 8))).size ≤ 3 := by rw [ofL_size]; exact Nat.le_refl 3
        have htz2 : 3 ≤ (ofL (triL (m / 64 % 8))).size := by rw [ofL_size]; exact Nat.le_refl 3
        by_cases hsp : m / 512 / 4 % 2 = 1
        · have HCH := Lib.hid (h1' hsp)
          have hsq : ((m : Int) / 512 / 4 % 2 == 1) = true := by rw [beq_iff_eq]; omega
          clear h0 h1' hsp
          by_cases hev : m / 64 % 8 % 2 = 0
          · have hev2 : ((m : Int) / 64 % 2 == 0) = true := by rw [beq_iff_eq]; omega
            have HX : Hid ((modeL m).take 3 = l ++ ((triL (m / 64 % 8)).take 2 ++ [83])) := Lib.hid (by
              rw [HST.out, HCH.out, if_pos hev]; rfl)
            go_wp2_with (go_at_call 93; refine (power_any 2 _ (by omega)).mono ?_; rintro e w' ⟨rfl, rfl⟩; simp only [Nat.reducePow, Nat.pow_zero])
            go_roundw
            case rel => exact ⟨1, 1, by omega, by omega, rfl, congrArg Value.string (by rw [show 3 * 1 = 3 from rfl, HX.out, ← cut_last l (m / 64 % 8) (show 2 = l.length + 2 by rw [HSZ.out])]; congr 2; simp only [ofL_size]; rw [HSZ.out]; rfl), Lib.hid (HB.out.trans ((((Below.refl _ _).alloc (Nat.le_refl _) _).alloc (by simp) _).mono HB.out.size))⟩
            case measure => simp [intOf]
          · have hev2 : ((m : Int) / 64 % 2 == 0) = false := by rw [beq_eq_false_iff_ne]; omega
            have HX : Hid ((modeL m).take 3 = l ++ ((triL (m / 64 % 8)).take 2 ++ [115])) := Lib.hid (by
              rw [HST.out, HCH.out, if_neg hev]; rfl)
            go_wp2_with (go_at_call 93; refine (power_any 2 _ (by omega)).mono ?_; rintro e w' ⟨rfl, rfl⟩; simp only [Nat.reducePow, Nat.pow_zero])
            go_roundw
            case rel => exact ⟨1, 1, by omega, by omega, rfl, congrArg Value.string (by rw [show 3 * 1 = 3 from rfl, HX.out, ← cut_last l (m / 64 % 8) (show 2 = l.length + 2 by rw [HSZ.out])]; congr 2; simp only [ofL_size]; rw [HSZ.out]; rfl), Lib.hid (HB.out.trans (((Below.refl _ _).alloc (Nat.le_refl _) _).mono HB.out.size))⟩
            case measure => simp [intOf]
        · have HX : Hid ((modeL m).take 3 = l ++ triL (m / 64 % 8)) := Lib.hid (by rw [HST.out, h0 (by omega)])
          have hsq : ((m : Int) / 512 / 4 % 2 == 1) = false := by rw [beq_eq_false_iff_ne]; omega
          clear h0 h1' hsp
          go_wp2_with (go_at_call 93; refine (power_any 2 _ (by omega)).mono ?_; rintro e w' ⟨rfl, rfl⟩; simp only [Nat.reducePow, Nat.pow_zero])
          go_roundw
          case rel => exact ⟨1, 1, by omega, by omega, rfl, congrArg Value.string (by rw [show 3 * 1 = 3 from rfl, HX.out, ← ofL_append]), Lib.hid (HB.out.trans (((Below.refl _ _).alloc (Nat.le_refl _) _).mono HB.out.size))⟩
          case measure => simp [intOf]
      · obtain rfl : i = 1 := by omega
        simp only [Nat.reduceMul, Nat.reduceAdd, Nat.reduceSub, Nat.reducePow, Nat.pow_zero, Nat.div_one] at h0 h1' HST hs1 hs2 HSZ
        have ht : m / 8 % 8 < 8 := by omega
        have hc := tri_cell 9 wr ht
        have htz1 : (ofL (triL (m / 8 % 8))).size ≤ 3 := by rw [ofL_size]; exact Nat.le_refl 3
        have htz2 : 3 ≤ (ofL (triL (m / 8 % 8))).size := by rw [ofL_size]; exact Nat.le_refl 3
        by_cases hsp : m / 512 / 2 % 2 = 1
        · have HCH := Lib.hid (h1' hsp)
          have hsq : ((m : Int) / 512 / 2 % 2 == 1) = true := by rw [beq_iff_eq]; omega
          clear h0 h1' hsp
          by_cases hev : m / 8 % 8 % 2 = 0
          · have hev2 : ((m : Int) / 8 % 2 == 0) = true := by rw [beq_iff_eq]; omega
            have HX : Hid ((modeL m).take 6 = l ++ ((triL (m / 8 % 8)).take 2 ++ [83])) := Lib.hid (by
              rw [HST.out, HCH.out, if_pos hev]; rfl)
            go_wp2_with (go_at_call 93; refine (power_any 1 _ (by omega)).mono ?_; rintro e w' ⟨rfl, rfl⟩; simp only [Nat.reducePow, Nat.pow_zero])
            go_roundw
            case rel => exact ⟨2, 0, by omega, by omega, rfl, congrArg Value.string (by rw [show 3 * 2 = 6 from rfl, HX.out, ← cut_last l (m / 8 % 8) (show 5 = l.length + 2 by rw [HSZ.out])]; congr 2; simp only [ofL_size]; rw [HSZ.out]; rfl), Lib.hid (HB.out.trans ((((Below.refl _ _).alloc (Nat.le_refl _) _).alloc (by simp) _).mono HB.out.size))⟩
            case measure => simp [intOf]
          · have hev2 : ((m : Int) / 8 % 2 == 0) = false := by rw [beq_eq_false_iff_ne]; omega
            have HX : Hid ((modeL m).take 6 = l ++ ((triL (m / 8 % 8)).take 2 ++ [115])) := Lib.hid (by
              rw [HST.out, HCH.out, if_neg hev]; rfl)
            go_wp2_with (go_at_call 93; refine (power_any 1 _ (by omega)).mono ?_; rintro e w' ⟨rfl, rfl⟩; simp only [Nat.reducePow, Nat.pow_zero])
            go_roundw
            case rel => exact ⟨2, 0, by omega, by omega, rfl, congrArg Value.string (by rw [show 3 * 2 = 6 from rfl, HX.out, ← cut_last l (m / 8 % 8) (show 5 = l.length + 2 by rw [HSZ.out])]; congr 2; simp only [ofL_size]; rw [HSZ.out]; rfl), Lib.hid (HB.out.trans (((Below.refl _ _).alloc (Nat.le_refl _) _).mono HB.out.size))⟩
            case measure => simp [intOf]
        · have HX : Hid ((modeL m).take 6 = l ++ triL (m / 8 % 8)) := Lib.hid (by rw [HST.out, h0 (by omega)])
          have hsq : ((m : Int) / 512 / 2 % 2 == 1) = false := by rw [beq_eq_false_iff_ne]; omega
          clear h0 h1' hsp
          go_wp2_with (go_at_call 93; refine (power_any 1 _ (by omega)).mono ?_; rintro e w' ⟨rfl, rfl⟩; simp only [Nat.reducePow, Nat.pow_zero])
          go_roundw
          case rel => exact ⟨2, 0, by omega, by omega, rfl, congrArg Value.string (by rw [show 3 * 2 = 6 from rfl, HX.out, ← ofL_append]), Lib.hid (HB.out.trans (((Below.refl _ _).alloc (Nat.le_refl _) _).mono HB.out.size))⟩
          case measure => simp [intOf]
      · obtain rfl : i = 0 := by omega
        simp only [Nat.reduceMul, Nat.reduceAdd, Nat.reduceSub, Nat.reducePow, Nat.pow_zero, Nat.div_one] at h0 h1' HST hs1 hs2 HSZ
        have ht : m % 8 < 8 := by omega
        have hc := tri_cell 9 wr ht
        have htz1 : (ofL (triL (m % 8))).size ≤ 3 := by rw [ofL_size]; exact Nat.le_refl 3
        have htz2 : 3 ≤ (ofL (triL (m % 8))).size := by rw [ofL_size]; exact Nat.le_refl 3
        by_cases hsp : m / 512 % 2 = 1
        · have HCH := Lib.hid (h1' hsp)
          have hsq : ((m : Int) / 512 % 2 == 1) = true := by rw [beq_iff_eq]; omega
          clear h0 h1' hsp
          by_cases hev : m % 8 % 2 = 0
          · have hev2 : ((m : Int) % 2 == 0) = true := by rw [beq_iff_eq]; omega
            have HX : Hid ((modeL m).take 9 = l ++ ((triL (m % 8)).take 2 ++ [84])) := Lib.hid (by
              rw [HST.out, HCH.out, if_pos hev]; rfl)
            go_wp2_with (go_at_call 93; refine (power_any 0 _ (by omega)).mono ?_; rintro e w' ⟨rfl, rfl⟩; simp only [Nat.reducePow, Nat.pow_zero])
            go_roundw
            case rel => exact ⟨3, -1, by omega, by omega, rfl, congrArg Value.string (by rw [show 3 * 3 = 9 from rfl, HX.out, ← cut_last l (m % 8) (show 8 = l.length + 2 by rw [HSZ.out])]; congr 2; simp only [ofL_size]; rw [HSZ.out]; rfl), Lib.hid (HB.out.trans ((((Below.refl _ _).alloc (Nat.le_refl _) _).alloc (by simp) _).mono HB.out.size))⟩
            case measure => simp [intOf]
          · have hev2 : ((m : Int) % 2 == 0) = false := by rw [beq_eq_false_iff_ne]; omega
            have HX : Hid ((modeL m).take 9 = l ++ ((triL (m % 8)).take 2 ++ [116])) := Lib.hid (by
              rw [HST.out, HCH.out, if_neg hev]; rfl)
            go_wp2_with (go_at_call 93; refine (power_any 0 _ (by omega)).mono ?_; rintro e w' ⟨rfl, rfl⟩; simp only [Nat.reducePow, Nat.pow_zero])
            go_roundw
            case rel => exact ⟨3, -1, by omega, by omega, rfl, congrArg Value.string (by rw [show 3 * 3 = 9 from rfl, HX.out, ← cut_last l (m % 8) (show 8 = l.length + 2 by rw [HSZ.out])]; congr 2; simp only [ofL_size]; rw [HSZ.out]; rfl), Lib.hid (HB.out.trans (((Below.refl _ _).alloc (Nat.le_refl _) _).mono HB.out.size))⟩
            case measure => simp [intOf]
        · have HX : Hid ((modeL m).take 9 = l ++ triL (m % 8)) := Lib.hid (by rw [HST.out, h0 (by omega)])
          have hsq : ((m : Int) / 512 % 2 == 1) = false := by rw [beq_eq_false_iff_ne]; omega
          clear h0 h1' hsp
          go_wp2_with (go_at_call 93; refine (power_any 0 _ (by omega)).mono ?_; rintro e w' ⟨rfl, rfl⟩; simp only [Nat.reducePow, Nat.pow_zero])
          go_roundw
          case rel => exact ⟨3, -1, by omega, by omega, rfl, congrArg Value.string (by rw [show 3 * 3 = 9 from rfl, HX.out, ← ofL_append]), Lib.hid (HB.out.trans (((Below.refl _ _).alloc (Nat.le_refl _) _).mono HB.out.size))⟩
          case measure => simp [intOf]
    · obtain rfl : d = 3 := by omega
      obtain rfl : i = -1 := by omega
      have HE : Hid ((modeL m).take (3 * 3) = modeL m) := Lib.hid (List.take_of_length_le (by rw [modeL_len]; omega))
      go_wp2
      go_ret2
      exact ⟨by first | rfl | rw [HE.out], HB.out⟩
set_option maxRecDepth 100000 in
theorem RefMode_any (m : Int) (w : World) (hm : i64 m) :
    Calls Tryd.prog 60 #[.int .i64 m] w fun e w' => e = .returned (.tuple #[.string (modeText m).1, .int .i64 (modeText m).2]) ∧ Below w.heap.size w w' := by
  unfold i64 at hm
  by_cases h : m < 0 ∨ 4095 < m
  · have HF := Lib.hid (show modeText m = (ByteArray.empty, 4) by unfold modeText; rw [if_pos h])
    rcases h with h | h
    all_goals
      go_enter Tryd.func60, Tryd.ntmps60
      go_wp2
      go_ret2
      exact ⟨ret_si HF.out, Below.refl _ _⟩
  · obtain ⟨n, rfl⟩ : ∃ n : Nat, m = n := ⟨m.toNat, by omega⟩
    refine (RefMode_in n w (by omega)).mono ?_
    rintro e w' ⟨rfl, hb⟩
    exact ⟨ret_si (by unfold modeText; rw [if_neg h, Int.toNat_natCast]), hb⟩
end Go.Proofs.YtaffgndickdbiaaDoor
