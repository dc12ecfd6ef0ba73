/-
  creelref.HeadText's two closures.
-/
import Derived.Test.YtiiojjhfncefgabHead
namespace Go.Creel
set_option linter.unusedVariables false
set_option linter.unusedSimpArgs false
open Go.RowKit
/-- the reference's two boxes: what is wrong, the bytes so far -/
def RefB (bw bs : Nat) (p : Pen) (w : World) : Prop := w.cell? ⟨bw, 0, none⟩ = some (.int .i64 p.2) ∧ w.cell? ⟨bs, 0, none⟩ = some (.string p.1) ∧ w.frozen? ⟨bw, 0, none⟩ = false ∧ w.frozen? ⟨bs, 0, none⟩ = false
theorem RefB.putS {bw bs : Nat} {p : Pen} {w : World} (h : RefB bw bs p w) (hne : bw ≠ bs) (s : ByteArray) : RefB bw bs (s, p.2) (w.setCell ⟨bs, 0, none⟩ (.string s)) := by
  obtain ⟨h1, h2, h3, h4⟩ := h
  exact ⟨(World.cell?_setCell_other _ _ _ _ (fun e => hne (congrArg Addr.block e).symm)).trans h1, World.cell?_setCell_same _ _ _ h2, by simpa using h3, by simpa using h4⟩
theorem RefB.putE {bw bs : Nat} {p : Pen} {w : World} (h : RefB bw bs p w) (hne : bw ≠ bs) (e : Int) : RefB bw bs (p.1, e) (w.setCell ⟨bw, 0, none⟩ (.int .i64 e)) := by
  obtain ⟨h1, h2, h3, h4⟩ := h
  exact ⟨World.cell?_setCell_same _ _ _ h1, (World.cell?_setCell_other _ _ _ _ (fun e => hne (congrArg Addr.block e))).trans h2, by simpa using h3, by simpa using h4⟩
theorem RefB.drewN {bw bs : Nat} {p : Pen} {w : World} (h : RefB bw bs p w) (n : Nat) : RefB bw bs p (w.drewN n) := h
theorem RefB.lt {bw bs : Nat} {p : Pen} {w : World} (h : RefB bw bs p w) : bw < w.heap.size ∧ bs < w.heap.size := ⟨World.block_lt_of_cell? w _ h.1, World.block_lt_of_cell? w _ h.2.1⟩
theorem RefB.below {bw bs : Nat} {p : Pen} {w w' : World} (h : RefB bw bs p w) (hb : Below w.heap.size w w') : RefB bw bs p w' := by
  obtain ⟨l1, l2⟩ := h.lt
  obtain ⟨h1, h2, h3, h4⟩ := h
  exact ⟨(hb.cell (p := ⟨bw, 0, none⟩) l1).trans h1, (hb.cell (p := ⟨bs, 0, none⟩) l2).trans h2, (hb.frozen (p := ⟨bw, 0, none⟩) l1).trans h3, (hb.frozen (p := ⟨bs, 0, none⟩) l2).trans h4⟩
theorem refB_new (w : World) (t1 t2 : TypeId) : RefB w.heap.size (w.heap.size + 1) (ByteArray.empty, 0) ((w.alloc (.cells #[.int .i64 0] t1)).alloc (.cells #[.string ⟨#[]⟩] t2)) := by
  refine ⟨?_, ?_, ?_, ?_⟩
  · exact ((Below.refl (w.alloc (.cells #[.int .i64 0] t1)).heap.size _).alloc (Nat.le_refl _) _).cell (p := ⟨w.heap.size, 0, none⟩) (by simp) |>.trans (by simp [World.cell?_alloc_new])
  · have : (w.alloc (.cells #[.int .i64 0] t1)).heap.size = w.heap.size + 1 := by simp
    rw [← this, World.cell?_alloc_new]
    rfl
  · simp
  · simp
theorem refPut_ok {p x : Pen} (h : p.2 = 0) : refPut p x = (p.1 ++ x.1, x.2) := by unfold refPut; rw [if_pos h]
theorem refPut_bad {p x : Pen} (h : ¬ p.2 = 0) : refPut p x = (p.1 ++ x.1, p.2) := by unfold refPut; rw [if_neg h]
theorem refPut_lit (p : Pen) (s : ByteArray) : refPut p (s, 0) = (p.1 ++ s, p.2) := by
  by_cases h : p.2 = 0
  · rw [refPut_ok h, h]
  · rw [refPut_bad h]
end Go.Creel
namespace Go.Proofs.Ytiiojjhfncefgab
set_option linter.unusedVariables false
set_option linter.unusedSimpArgs false
open Go.Creel Go.RowKit
set_option maxRecDepth 100000 in
set_option maxHeartbeats 2000000 in
theorem Text1_any (B bw bs : Nat) (hne : bw ≠ bs) (hB1 : B ≤ bw) (hB2 : B ≤ bs) (p : Pen) (t : ByteArray) (width : Int) (whole : Bool) (w : World) (h : RefB bw bs p w) (ht : t.size ≤ maxLen) (hw : i64 width) (hl : p.1.size ≤ 1000000) :
    Calls Try.prog 20 #[.string t, .int .i64 width, .bool whole, .pointer (some ⟨bw, 0, none⟩), .pointer (some ⟨bs, 0, none⟩)] w fun e w' => e = .returned (.tuple #[]) ∧ RefB bw bs (refPut p (fieldText t width whole)) w' ∧ Below B w w' := by
  have hxs := fieldText_le t width whole
  have HFT := Lib.hid (fun w => FieldText_any t width whole w ht hw)
  generalize fieldText t width whole = x at *
  obtain ⟨c1, c2, f1, f2⟩ := id h
  by_cases h0 : p.2 = 0
  · have HP := Lib.hid (refPut_ok (x := x) h0)
    have HR := Lib.hid ((h.putE hne x.2).putS hne (p.1 ++ x.1))
    have HB := Lib.hid (((Below.refl B w).setCell (p := ⟨bw, 0, none⟩) hB1 (.int .i64 x.2)).setCell (p := ⟨bs, 0, none⟩) hB2 (.string (p.1 ++ x.1)))
    have d2 : (w.setCell ⟨bw, 0, none⟩ (.int .i64 x.2)).cell? ⟨bs, 0, none⟩ = some (.string p.1) := (h.putE hne x.2).2.1
    rw [h0] at c1
    clear h h0
    go_enter Try.func20, Try.ntmps20
    go_wp2_with fail
    refine (HFT.out _).mono ?_
    rintro e w1 ⟨rfl, rfl⟩
    go_wp2
    go_end0
    exact ⟨rfl, by rw [HP.out]; exact HR.out, HB.out⟩
  · have HP := Lib.hid (refPut_bad (x := x) h0)
    have hne2 : (p.2 == 0) = false := by rw [beq_eq_false_iff_ne]; exact h0
    have HR := Lib.hid (h.putS hne (p.1 ++ x.1))
    have HB := Lib.hid ((Below.refl B w).setCell (p := ⟨bs, 0, none⟩) hB2 (.string (p.1 ++ x.1)))
    clear h h0
    go_enter Try.func20, Try.ntmps20
    go_wp2_with fail
    refine (HFT.out _).mono ?_
    rintro e w1 ⟨rfl, rfl⟩
    go_wp2
    go_end0
    exact ⟨rfl, by rw [HP.out]; exact HR.out, HB.out⟩
set_option maxRecDepth 100000 in
set_option maxHeartbeats 2000000 in
theorem Num1_any (B bw bs : Nat) (hne : bw ≠ bs) (hB1 : B ≤ bw) (hB2 : B ≤ bs) (p : Pen) (n width : Int) (w : World) (h : RefB bw bs p w) (hl : p.1.size ≤ 1000000) :
    Calls Try.prog 22 #[.int .i64 n, .int .i64 width, .pointer (some ⟨bw, 0, none⟩), .pointer (some ⟨bs, 0, none⟩)] w fun e w' => e = .returned (.tuple #[]) ∧ RefB bw bs (refPut p (octText n width)) w' ∧ Below B w w' := by
  have hxs := octText_le n width
  have HFT := Lib.hid (fun w => OctText_any n width w)
  generalize octText n width = x at *
  obtain ⟨c1, c2, f1, f2⟩ := id h
  by_cases h0 : p.2 = 0
  · have HP := Lib.hid (refPut_ok (x := x) h0)
    have HR := Lib.hid ((h.putE hne x.2).putS hne (p.1 ++ x.1))
    have HB := Lib.hid (((Below.refl B w).setCell (p := ⟨bw, 0, none⟩) hB1 (.int .i64 x.2)).setCell (p := ⟨bs, 0, none⟩) hB2 (.string (p.1 ++ x.1)))
    have d2 : (w.setCell ⟨bw, 0, none⟩ (.int .i64 x.2)).cell? ⟨bs, 0, none⟩ = some (.string p.1) := (h.putE hne x.2).2.1
    rw [h0] at c1
    clear h h0
    go_enter Try.func22, Try.ntmps22
    go_wp2_with fail
    refine (HFT.out _).mono ?_
    rintro e w1 ⟨rfl, rfl⟩
    go_wp2
    go_end0
    exact ⟨rfl, by rw [HP.out]; exact HR.out, HB.out⟩
  · have HP := Lib.hid (refPut_bad (x := x) h0)
    have hne2 : (p.2 == 0) = false := by rw [beq_eq_false_iff_ne]; exact h0
    have HR := Lib.hid (h.putS hne (p.1 ++ x.1))
    have HB := Lib.hid ((Below.refl B w).setCell (p := ⟨bs, 0, none⟩) hB2 (.string (p.1 ++ x.1)))
    clear h h0
    go_enter Try.func22, Try.ntmps22
    go_wp2_with fail
    refine (HFT.out _).mono ?_
    rintro e w1 ⟨rfl, rfl⟩
    go_wp2
    go_end0
    exact ⟨rfl, by rw [HP.out]; exact HR.out, HB.out⟩
end Go.Proofs.Ytiiojjhfncefgab
