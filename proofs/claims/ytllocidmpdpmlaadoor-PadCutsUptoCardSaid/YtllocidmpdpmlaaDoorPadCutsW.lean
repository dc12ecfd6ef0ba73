/-
  The law PadCuts, walked.
-/
import Derived.Test.YtllocidmpdpmlaaDoorPadCutRef
import Derived.Test.YtllocidmpdpmlaaDoorBulk
import Derived.Test.YtllocidmpdpmlaaDoorLaid
namespace Go.Proofs.YtllocidmpdpmlaaDoor
set_option linter.unusedVariables false
open Go.Creel Go.RowKit
theorem padCut_len (l : List UInt8) (n : Int) (h : l.length ≤ 1048576) : (padCut l n).1.length ≤ 1048576 ∧ (padCut l n).2.1.length ≤ 1048576 := by
  unfold padCut
  split
  · simp
  · split
    · simp
    · split
      · simp; omega
      · simp
set_option maxRecDepth 100000 in
set_option maxHeartbeats 1000000 in
theorem padCuts_walk (w : World) (v : Value) (l : List UInt8) (h : SliceC 1048576 1 ByteC w [v] l) (n : Int) (hn : -9223372036854775808 ≤ n ∧ n ≤ 9223372036854775807) (hsh : w.ShapedOpen Tryd.prog) (_hL : laidMetH Tryd.prog Rows.padCutsUptoRow.laid w) :
    Calls Tryd.prog 4 #[v, .int .i64 n] w fun e w' => e = .returned (.bool true) ∧ Below w.heap.size w w' := by
  have hl : l.length ≤ 1048576 := by obtain ⟨_, _, _, _, _, h, _⟩ := h; exact h
  obtain ⟨i0, hi, hz0, hz1, hz2⟩ := info_parts info_byte2
  have hmk : ∀ w : World, (Instr.makeSlice 25 (.int .i64 1024) (.int .i64 1024)).run Tryd.prog w = .ok (.slice (some ⟨w.heap.size, 0, none⟩) 1024 1024) (w.alloc (.cells (madeCells #[.int .u8 0] 1024) 5)) := fun w => run_make_bytes (P := Tryd.prog) w 25 5 i0 Tryd.underlying25 hi hz0 hz1 hz2 1024 (by omega)
  have H := Lib.hid h
  have HP := Lib.hid (padCut_len l n hl)
  have HA := Lib.hid (fun w h => PadCutL_any (N := 1048576) v l n w hn h hl)
  have HR := Lib.hid (fun w h => PadCutR_any (N := 1048576) v l n w hn h hl)
  have HEnds := Lib.hid (fun (w : World) (h : SliceC 1048576 1 ByteC w [v] l) => Ends_any v l w h hl)
  have HSame := Lib.hid (fun (u : Value) (w : World) (h1 : SliceC 1048576 1 ByteC w [v] l) (h2 : SliceC 1048576 1 ByteC w [u] (List.replicate 1024 0)) => sameBytes_any v u l (List.replicate 1024 0) w h1 h2)
  generalize decide (l = List.replicate 1024 0) = bb at HEnds HSame
  generalize padCut l n = p at *
  obtain ⟨p1, p2, pe⟩ := p
  clear h hsh _hL hi hz0 hz1 hz2
  go_enter Tryd.func4, Tryd.ntmps4
  go_wp2_with fail
  refine (HA.out _ H.out).mono ?_
  rintro e w1 ⟨c, r, rfl, ho, ho2, hb⟩
  have HB1 := Lib.hid hb
  have HC1 := Lib.hid ho
  have HR1 := Lib.hid ho2
  have H1 := Lib.hid (H.out.below (w' := w1) (fun _ _ h => h) hb)
  clear hb ho ho2
  go_wp2_with fail
  refine (End_any _).mono ?_
  rintro e w2 ⟨ve, rfl, ho, hb⟩
  have HB2 := Lib.hid (HB1.out.trans (hb.mono HB1.out.size))
  have HE2 := Lib.hid ho
  have HC2 := Lib.hid (HC1.out.below hb)
  have HR2 := Lib.hid (HR1.out.below hb)
  have H2 := Lib.hid (H1.out.below (w' := w2) (fun _ _ h => h) hb)
  clear hb ho
  go_wp2_with fail
  refine (HEnds.out _ H2.out).mono ?_
  rintro e w3 ⟨rfl, hb⟩
  have HB3 := Lib.hid (HB2.out.trans (hb.mono HB2.out.size))
  have HE3 := Lib.hid (HE2.out.below hb)
  have HC3 := Lib.hid (HC2.out.below hb)
  have HR3 := Lib.hid (HR2.out.below hb)
  have H3 := Lib.hid (H2.out.below (w' := w3) (fun _ _ h => h) hb)
  clear hb
  go_wp2_with fail
  refine (HR.out _ H3.out).mono ?_
  rintro e w4 ⟨d, q, rfl, ho, ho2, hb⟩
  have HB4 := Lib.hid (HB3.out.trans (hb.mono HB3.out.size))
  have hz := (Below.refl w4.heap.size w4).alloc (Nat.le_refl _) (.cells (madeCells #[.int .u8 0] 1024) 5)
  have HB5 := Lib.hid (HB4.out.alloc HB4.out.size (.cells (madeCells #[.int .u8 0] 1024) 5))
  have SE := Lib.hid ((((HE3.out.below hb).below hz).slice (N := 1048576) (by simp)))
  have SC := Lib.hid (((HC3.out.below hb).below hz).slice HP.out.1)
  have SR := Lib.hid (((HR3.out.below hb).below hz).slice HP.out.2)
  have SD := Lib.hid ((ho.below hz).slice HP.out.1)
  have SQ := Lib.hid ((ho2.below hz).slice HP.out.2)
  have H5 := Lib.hid ((H3.out.below (w' := w4) (fun _ _ h => h) hb).below (w' := w4.alloc (.cells (madeCells #[.int .u8 0] 1024) 5)) (fun _ _ h => h) hz)
  have HZ : Hid (SliceC 1048576 1 ByteC (w4.alloc (.cells (madeCells #[.int .u8 0] 1024) 5)) [.slice (some ⟨w4.heap.size, 0, none⟩) 1024 1024] (List.replicate 1024 0)) := Lib.hid (by
    have e := ownB_made (t := 5) w4 1024 (by decide)
    have e2 : OwnBs 5 (w4.alloc (.cells (madeCells #[.int .u8 0] 1024) 5)) w4.heap.size (.slice (some ⟨w4.heap.size, 0, none⟩) 1024 1024) (List.replicate 1024 0) := by
      unfold OwnB at e
      unfold OwnBs
      simp only [List.length_replicate] at e ⊢
      exact e
    exact e2.slice (by simp))
  clear hb ho ho2 hz
  go_wp2_with fail
  refine (sameBytes_any _ _ _ _ _ SC.out SD.out).mono ?_
  rintro e w6 ⟨rfl, rfl⟩
  rw [decide_eq_true rfl]
  go_wp2_with fail
  refine (sameBytes_any _ _ _ _ _ SR.out SQ.out).mono ?_
  rintro e w7 ⟨rfl, rfl⟩
  rw [decide_eq_true rfl]
  go_wp2_with fail
  refine (sameBytes_any _ _ _ _ _ SE.out HZ.out).mono ?_
  rintro e w8 ⟨rfl, rfl⟩
  rw [decide_eq_true rfl]
  go_wp2_with fail
  refine (HSame.out _ _ H5.out HZ.out).mono ?_
  rintro e w9 ⟨rfl, rfl⟩
  go_wp2
  go_ret
  exact ⟨by cases bb <;> rfl, HB5.out⟩
end Go.Proofs.YtllocidmpdpmlaaDoor
