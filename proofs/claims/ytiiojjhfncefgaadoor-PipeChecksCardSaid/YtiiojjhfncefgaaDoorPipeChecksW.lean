/-
  The law PipeChecks, walked: settings as data; pipe.Check and its reference.
-/
import Derived.Test.YtiiojjhfncefgaaDoorRules
import Derived.Test.YtiiojjhfncefgaaDoorFltCheck
import Derived.Test.YtiiojjhfncefgaaDoorMaxOk
import Derived.Test.YtiiojjhfncefgaaDoorLaid
namespace Go.Creel
set_option linter.unusedVariables false
open Go.RowKit
structure Sett where
  workers : Int
  window : Int
  rv : Value
  rules : List Rul
  fv : Value
  faults : List Flt
def SettC (N : Nat) (w : World) (cs : List Value) (x : Sett) : Prop := cs = [.int .i64 x.workers, .int .i64 x.window, x.rv, x.fv] ∧ i64 x.workers ∧ i64 x.window ∧ SliceC N 2 (RulC N) w [x.rv] x.rules ∧ SliceC N 2 (FltC N) w [x.fv] x.faults
def settBad (x : Sett) : Prop := x.workers < 1 ∨ 8 < x.workers ∨ x.window < 1 ∨ 16 < x.window
instance (x : Sett) : Decidable (settBad x) := by unfold settBad; infer_instance
noncomputable def settFault (x : Sett) : Int := if settBad x then 4 else if ¬ rulesFault x.rules = 0 then rulesFault x.rules else fltsFault x.faults
theorem settFault_bad {x : Sett} (h : settBad x) : settFault x = 4 := if_pos h
theorem settFault_rules {x : Sett} (h : ¬ settBad x) (h2 : ¬ rulesFault x.rules = 0) : settFault x = rulesFault x.rules := by unfold settFault; rw [if_neg h, if_pos h2]
theorem settFault_flts {x : Sett} (h : ¬ settBad x) (h2 : rulesFault x.rules = 0) : settFault x = fltsFault x.faults := by unfold settFault; rw [if_neg h, if_neg (by simpa using h2)]
end Go.Creel
namespace Go.Proofs.YtiiojjhfncefgaaDoor
set_option linter.unusedVariables false
set_option linter.unusedSimpArgs false
open Go.Creel Go.RowKit Go.ChangeShapes
section
variable {H : Type} {enc : TypeId × Value → H} {W : World} {S : DataW H → Prop} {N : Nat}
theorem opens_Setting (hS : Bd H S N) : Opens enc Tryd.prog W S 62 (SettC N) := by
  intro fuel cs x h hx
  have hu := Tryd.underlying62
  have hl := (opens_len hu h).trans (show Tryd.prog.cellsOf 62 = 4 by kernel_rfl)
  obtain ⟨a0, h0⟩ := opens_field hS hu h hx 0 0 1 rfl rfl (by kernel_rfl) opens_Int
  obtain ⟨a1, h1⟩ := opens_field hS hu h hx 1 1 1 rfl rfl (by kernel_rfl) opens_Int
  obtain ⟨a2, h2⟩ := opens_field hS hu h hx 2 2 1 rfl rfl (by kernel_rfl) (opens_Rules hS)
  obtain ⟨a3, h3⟩ := opens_field hS hu h hx 3 3 1 rfl rfl (by kernel_rfl) (opens_Faults hS)
  obtain ⟨c0, c1, c2, c3, rfl⟩ : ∃ c0 c1 c2 c3, cs = [c0, c1, c2, c3] := by
    match cs, hl with
    | [c0, c1, c2, c3], _ => exact ⟨c0, c1, c2, c3, rfl⟩
  simp only [IntC, List.drop, List.take, List.cons.injEq, and_true] at h0 h1 h2 h3
  exact ⟨⟨a0, a1, c2, a2, c3, a3⟩, by rw [h0.1, h1.1], h0.2, h1.2, h2, h3⟩
end
theorem sett_below {N : Nat} {w w' : World} {cs : List Value} {x : Sett} (h : SettC N w cs x) (hb : Below w.heap.size w w') : SettC N w' cs x :=
  ⟨h.1, h.2.1, h.2.2.1, ruls_below h.2.2.2.1 hb, flts_below h.2.2.2.2 hb⟩
abbrev settVal (x : Sett) : Value := .agg #[.int .i64 x.workers, .int .i64 x.window, x.rv, x.fv]
abbrev settBox (x : Sett) (t : TypeId) : Obj := .cells #[.int .i64 x.workers, .int .i64 x.window, x.rv, x.fv] t
theorem settAt_box (w : World) (x : Sett) (t : TypeId) : (w.alloc (settBox x t)).cell? ⟨w.heap.size, 2, none⟩ = some x.rv ∧ (w.alloc (settBox x t)).cell? ⟨w.heap.size, 3, none⟩ = some x.fv := by
  refine ⟨?_, ?_⟩ <;> simp [World.cell?_alloc_new]
set_option maxRecDepth 100000 in
set_option maxHeartbeats 1000000 in
theorem SettL_any (x : Sett) (w : World) (hM : MaxOk w) (h : SettC maxLen w [.int .i64 x.workers, .int .i64 x.window, x.rv, x.fv] x) :
    Calls Tryd.prog 45 #[settVal x] w fun e w' => e = .returned (.int .i64 (settFault x)) ∧ Below w.heap.size w w' := by
  have H := Lib.hid h
  have hbx := (Below.refl w.heap.size w).alloc (Nat.le_refl _) (settBox x 62)
  have HB := Lib.hid hbx
  have HR := Lib.hid (ruls_below h.2.2.2.1 hbx)
  have HFL := Lib.hid (flts_below h.2.2.2.2 hbx)
  have HV := Lib.hid (settAt_box w x 62)
  have HM := Lib.hid hM
  clear hM
  obtain ⟨_, hw1, hw2, _, _⟩ := h
  unfold i64 at hw1 hw2
  by_cases hbad : settBad x
  · have HF := Lib.hid (settFault_bad hbad)
    unfold settBad at hbad
    clear hbx
    by_cases h1 : x.workers < 1
    · clear hbad
      go_enter Tryd.func45, Tryd.ntmps45
      go_wp2
      go_ret
      exact ⟨ret_i HF.out, HB.out⟩
    · by_cases h2 : 8 < x.workers
      · clear hbad
        go_enter Tryd.func45, Tryd.ntmps45
        go_wp2
        go_ret
        exact ⟨ret_i HF.out, HB.out⟩
      · by_cases h3 : x.window < 1
        · clear hbad
          go_enter Tryd.func45, Tryd.ntmps45
          go_wp2
          go_ret
          exact ⟨ret_i HF.out, HB.out⟩
        · have h4 : 16 < x.window := by omega
          clear hbad
          go_enter Tryd.func45, Tryd.ntmps45
          go_wp2
          go_ret
          exact ⟨ret_i HF.out, HB.out⟩
  · have HFR := Lib.hid (fun e => settFault_rules hbad e)
    have HFF := Lib.hid (fun e => settFault_flts hbad e)
    have h1 : ¬ x.workers < 1 := fun e => hbad (.inl e)
    have h2 : ¬ 8 < x.workers := fun e => hbad (.inr (.inl e))
    have h3 : ¬ x.window < 1 := fun e => hbad (.inr (.inr (.inl e)))
    have h4 : ¬ 16 < x.window := fun e => hbad (.inr (.inr (.inr e)))
    clear hbad hbx
    go_enter Tryd.func45, Tryd.ntmps45
    go_wp2_with fail
    refine (RulesL_any _ x.rules _ (HM.out.below HB.out) HR.out).mono ?_
    rintro e w1 ⟨rfl, hb⟩
    have HB1 := Lib.hid (HB.out.trans (hb.mono HB.out.size))
    have HF1 := Lib.hid (flts_below HFL.out hb)
    have hv := (hb.cell (p := ⟨w.heap.size, 3, none⟩) (by simp)).trans HV.out.2
    clear hb
    by_cases hr : rulesFault x.rules = 0
    · have HQ := Lib.hid (HFF.out hr)
      rw [hr]
      clear hr
      go_wp2_with fail
      clear hv
      refine (FaultsL_any _ x.faults _ (HM.out.below HB1.out) HF1.out).mono ?_
      rintro e w2 ⟨rfl, hb⟩
      have HB2 := Lib.hid (HB1.out.trans (hb.mono HB1.out.size))
      clear hb
      go_wp2
      go_ret
      exact ⟨ret_i HQ.out, HB2.out⟩
    · have HQ := Lib.hid (HFR.out hr)
      have hne := hr
      generalize rulesFault x.rules = q at *
      go_wp2
      go_ret
      exact ⟨ret_i HQ.out, HB1.out⟩
set_option maxRecDepth 100000 in
set_option maxHeartbeats 1000000 in
theorem SettR_any (x : Sett) (w : World) (h : SettC maxLen w [.int .i64 x.workers, .int .i64 x.window, x.rv, x.fv] x) :
    Calls Tryd.prog 46 #[settVal x] w fun e w' => e = .returned (.int .i64 (settFault x)) ∧ Below w.heap.size w w' := by
  have H := Lib.hid h
  have hbx := (Below.refl w.heap.size w).alloc (Nat.le_refl _) (settBox x 62)
  have HB := Lib.hid hbx
  have HR := Lib.hid (ruls_below h.2.2.2.1 hbx)
  have HFL := Lib.hid (flts_below h.2.2.2.2 hbx)
  have HV := Lib.hid (settAt_box w x 62)
  obtain ⟨_, hw1, hw2, _, _⟩ := h
  unfold i64 at hw1 hw2
  by_cases hbad : settBad x
  · have HF := Lib.hid (settFault_bad hbad)
    unfold settBad at hbad
    clear hbx
    by_cases h1 : x.workers < 1
    · clear hbad
      go_enter Tryd.func46, Tryd.ntmps46
      go_wp2
      go_ret
      exact ⟨ret_i HF.out, HB.out⟩
    · by_cases h2 : 8 < x.workers
      · clear hbad
        go_enter Tryd.func46, Tryd.ntmps46
        go_wp2
        go_ret
        exact ⟨ret_i HF.out, HB.out⟩
      · by_cases h3 : x.window < 1
        · clear hbad
          go_enter Tryd.func46, Tryd.ntmps46
          go_wp2
          go_ret
          exact ⟨ret_i HF.out, HB.out⟩
        · have h4 : 16 < x.window := by omega
          clear hbad
          go_enter Tryd.func46, Tryd.ntmps46
          go_wp2
          go_ret
          exact ⟨ret_i HF.out, HB.out⟩
  · have HFR := Lib.hid (fun e => settFault_rules hbad e)
    have HFF := Lib.hid (fun e => settFault_flts hbad e)
    have h1 : ¬ x.workers < 1 := fun e => hbad (.inl e)
    have h2 : ¬ 8 < x.workers := fun e => hbad (.inr (.inl e))
    have h3 : ¬ x.window < 1 := fun e => hbad (.inr (.inr (.inl e)))
    have h4 : ¬ 16 < x.window := fun e => hbad (.inr (.inr (.inr e)))
    clear hbad hbx
    go_enter Tryd.func46, Tryd.ntmps46
    go_wp2_with fail
    refine (RulesR_any _ x.rules _ HR.out).mono ?_
    rintro e w1 ⟨rfl, hb⟩
    have HB1 := Lib.hid (HB.out.trans (hb.mono HB.out.size))
    have HF1 := Lib.hid (flts_below HFL.out hb)
    have hv := (hb.cell (p := ⟨w.heap.size, 3, none⟩) (by simp)).trans HV.out.2
    clear hb
    by_cases hr : rulesFault x.rules = 0
    · have HQ := Lib.hid (HFF.out hr)
      rw [hr]
      clear hr
      go_wp2_with fail
      clear hv
      refine (FaultsR_any _ x.faults _ HF1.out).mono ?_
      rintro e w2 ⟨rfl, hb⟩
      have HB2 := Lib.hid (HB1.out.trans (hb.mono HB1.out.size))
      clear hb
      go_wp2
      go_ret
      exact ⟨ret_i HQ.out, HB2.out⟩
    · have HQ := Lib.hid (HFR.out hr)
      have hne := hr
      generalize rulesFault x.rules = q at *
      go_wp2
      go_ret
      exact ⟨ret_i HQ.out, HB1.out⟩
set_option maxRecDepth 100000 in
set_option maxHeartbeats 1000000 in
theorem pipeChecks_walk (w : World) (cs : List Value) (x : Sett) (h : SettC maxLen w cs x) (hsh : w.ShapedOpen Tryd.prog) (_hL : laidMetH Tryd.prog Rows.pipeChecksRow.laid w) :
    Calls Tryd.prog 13 #[.agg cs.toArray] w fun e w' => e = .returned (.bool true) ∧ Below w.heap.size w w' := by
  obtain ⟨rfl, hr⟩ := h
  show Calls Tryd.prog 13 #[settVal x] w _
  have HM := Lib.hid (maxOk_of w hsh)
  have H : Hid (SettC maxLen w [.int .i64 x.workers, .int .i64 x.window, x.rv, x.fv] x) := Lib.hid ⟨rfl, hr⟩
  have hbx := (Below.refl w.heap.size w).alloc (Nat.le_refl _) (settBox x 62)
  have HB := Lib.hid hbx
  have HH := Lib.hid (sett_below H.out hbx)
  have c0 : (w.alloc (settBox x 62)).cell? ⟨w.heap.size, 0, none⟩ = some (.int .i64 x.workers) := by simp [World.cell?_alloc_new]
  have c1 : (w.alloc (settBox x 62)).cell? ⟨w.heap.size, 1, none⟩ = some (.int .i64 x.window) := by simp [World.cell?_alloc_new]
  obtain ⟨c2, c3⟩ := settAt_box w x 62
  have HC := Lib.hid (And.intro c0 (And.intro c1 (And.intro c2 c3)))
  clear hr hsh _hL hbx c0 c1 c2 c3
  go_enter Tryd.func13, Tryd.ntmps13
  go_wp2_with fail
  refine (SettL_any x _ (HM.out.below HB.out) HH.out).mono ?_
  rintro e w1 ⟨rfl, hb⟩
  have HB1 := Lib.hid (HB.out.trans (hb.mono HB.out.size))
  have HH1 := Lib.hid (sett_below HH.out hb)
  obtain ⟨c0, c1, c2, c3⟩ := HC.out
  have d0 := (hb.cell (p := ⟨w.heap.size, 0, none⟩) (by simp)).trans c0
  have d1 := (hb.cell (p := ⟨w.heap.size, 1, none⟩) (by simp)).trans c1
  have d2 := (hb.cell (p := ⟨w.heap.size, 2, none⟩) (by simp)).trans c2
  have d3 := (hb.cell (p := ⟨w.heap.size, 3, none⟩) (by simp)).trans c3
  clear hb c0 c1 c2 c3
  go_wp2_with fail
  clear d0 d1 d2 d3
  refine (SettR_any x _ HH1.out).mono ?_
  rintro e w2 ⟨rfl, hb⟩
  have HB2 := Lib.hid (HB1.out.trans (hb.mono HB1.out.size))
  clear hb
  go_wp2
  go_ret
  exact ⟨rfl, HB2.out⟩
end Go.Proofs.YtiiojjhfncefgaaDoor
