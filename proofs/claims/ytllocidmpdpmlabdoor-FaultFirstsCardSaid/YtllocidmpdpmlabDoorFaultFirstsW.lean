/-
  The law FaultFirsts, walked.
-/
import Derived.Test.YtllocidmpdpmlabDoorFltFirst
import Derived.Test.YtllocidmpdpmlabDoorMaxOk
import Derived.Test.YtllocidmpdpmlabDoorLaid
namespace Go.Proofs.YtllocidmpdpmlabDoor
set_option linter.unusedVariables false
open Go.Creel Go.RowKit
set_option maxRecDepth 100000 in
set_option maxHeartbeats 1000000 in
theorem faultFirsts_walk (w : World) (v : Value) (l : List Ent) (h : SliceC maxLen 11 (EntC maxLen) w [v] l) (u : Value) (f : List Flt) (hf : SliceC maxLen 2 (FltC maxLen) w [u] f) (hsh : w.ShapedOpen Tryd.prog) (_hL : laidMetH Tryd.prog Rows.faultFirstsRow.laid w) :
    Calls Tryd.prog 7 #[v, u] w fun e w' => e = .returned (.bool true) ∧ Below w.heap.size w w' := by
  have HM := Lib.hid (maxOk_of w hsh)
  obtain ⟨la, lcap, hv⟩ : ∃ a cap, v = .slice a l.length cap := by
    obtain ⟨a, cap, hv, _⟩ := h
    exact ⟨a, cap, by simpa using hv⟩
  obtain ⟨fa, fcap, hu⟩ : ∃ a cap, u = .slice a f.length cap := by
    obtain ⟨a, cap, hv, _⟩ := hf
    exact ⟨a, cap, by simpa using hv⟩
  subst hv
  subst hu
  have H := Lib.hid h
  have HF := Lib.hid hf
  clear h hf hsh _hL
  go_enter Tryd.func7, Tryd.ntmps7
  go_wp2_with fail
  refine (FaultsL_any _ f _ HM.out HF.out).mono ?_
  rintro e w1 ⟨rfl, hb⟩
  have HB1 := Lib.hid hb
  have H1 := Lib.hid (ents_below H.out hb)
  have HF1 := Lib.hid (flts_below HF.out hb)
  have HM1 := Lib.hid (HM.out.below hb)
  clear hb
  go_wp2_with fail
  refine (FirstL_at _ _ _ _ l f _ HM1.out H1.out HF1.out).mono ?_
  rintro e w2 ⟨rfl, hb⟩
  have HB2 := Lib.hid (HB1.out.trans (hb.mono HB1.out.size))
  have H2 := Lib.hid (ents_below H1.out hb)
  have HF2 := Lib.hid (flts_below HF1.out hb)
  have HFR := Lib.hid (fun w : World => FirstR_at la fa lcap fcap l f w)
  clear hb
  generalize firstF l f = p at *
  obtain ⟨⟨x, c⟩, n, e2⟩ := p
  have HX := Lib.hid ((Below.refl w2.heap.size w2).alloc (Nat.le_refl _) (.cells #[.string x, .int .i64 c] 47))
  have HBX := Lib.hid (BoxF.new 47 w2 ⟨x, c⟩)
  go_wp2_with fail
  refine (FaultsR_any _ f _ (flts_below HF2.out HX.out)).mono ?_
  rintro e w3 ⟨rfl, hb⟩
  have HB3 := Lib.hid (HX.out.trans (hb.mono HX.out.size))
  have HBX3 := Lib.hid (HBX.out.below hb)
  clear hb
  go_wp2_with fail
  refine (HFR.out _ (ents_below H2.out HB3.out) (flts_below HF2.out HB3.out)).mono ?_
  rintro e w4 ⟨rfl, hb⟩
  have HB4 := Lib.hid (HB2.out.trans ((HB3.out.trans (hb.mono HB3.out.size)).mono HB2.out.size))
  have HBX4 := Lib.hid (HBX3.out.below hb)
  obtain ⟨c0, c1, _, _⟩ := (HBX4.out.below ((Below.refl w4.heap.size w4).alloc (Nat.le_refl _) (.cells #[.string x, .int .i64 c] 47))).cells
  have HB5 := Lib.hid (HB4.out.alloc HB4.out.size (.cells #[.string x, .int .i64 c] 47))
  have hlt := HBX4.out.lt
  clear hb
  generalize fltsFault f = q at *
  generalize w2.heap.size = bx at *
  go_wp2
  all_goals (go_ret; exact ⟨rfl, HB5.out⟩)
end Go.Proofs.YtllocidmpdpmlabDoor
