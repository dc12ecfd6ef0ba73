/-
  creelref.HeadOf's closures.
-/
import Derived.Test.YtiiojjhfncefgabDoorEye
import Derived.Test.YtiiojjhfncefgabDoorFieldOf
namespace Go.Creel
set_option linter.unusedVariables false
set_option linter.unusedSimpArgs false
open Go.RowKit
/-- what the closures share: the block's text, what is wrong, the function that notes it -/
structure RefE (te : TypeId) (fv : Value) (w : World) (bs bw bn : Nat) (s : ByteArray) (e : Int) : Prop where
  str : w.cell? ⟨bs, 0, none⟩ = some (.string s)
  fn : w.cell? ⟨bn, 0, none⟩ = some fv
  worst : w.heap[bw]? = some (.cells #[.int .i64 e] te (0, 0))
  sw : bs ≠ bw
  nw : bn ≠ bw
variable {te : TypeId} {fv : Value} {w w' : World} {bs bw bn : Nat} {s : ByteArray} {e e' : Int}
theorem RefE.wc (h : RefE te fv w bs bw bn s e) : w.cell? ⟨bw, 0, none⟩ = some (.int .i64 e) := by rw [cell_of_row w bw 0 _ te (0, 0) h.worst]; rfl
theorem RefE.wf (h : RefE te fv w bs bw bn s e) : w.frozen? ⟨bw, 0, none⟩ = false := frozen_of_row w bw 0 _ te h.worst
theorem RefE.lt (h : RefE te fv w bs bw bn s e) : bs < w.heap.size ∧ bn < w.heap.size ∧ bw < w.heap.size := ⟨World.block_lt_of_cell? w _ h.str, World.block_lt_of_cell? w _ h.fn, (Array.getElem?_eq_some_iff.1 h.worst).1⟩
theorem RefE.put (h : RefE te fv w bs bw bn s e) (e' : Int) : RefE te fv (w.setCell ⟨bw, 0, none⟩ (.int .i64 e')) bs bw bn s e' := by
  refine ⟨?_, ?_, ?_, h.sw, h.nw⟩
  · rw [World.cell?_setCell_other _ _ _ _ (fun e => h.sw (congrArg Addr.block e).symm)]; exact h.str
  · rw [World.cell?_setCell_other _ _ _ _ (fun e => h.nw (congrArg Addr.block e).symm)]; exact h.fn
  · rw [heap_setCell_same w bw 0 _ te _ h.worst]; rfl
theorem RefE.below (h : RefE te fv w bs bw bn s e) (hb : Below w.heap.size w w') : RefE te fv w' bs bw bn s e := by
  obtain ⟨l1, l2, l3⟩ := h.lt
  exact ⟨(hb.cell (p := ⟨bs, 0, none⟩) l1).trans h.str, (hb.cell (p := ⟨bn, 0, none⟩) l2).trans h.fn, (hb.block bw l3).trans h.worst, h.sw, h.nw⟩
end Go.Creel
namespace Go.Proofs.YtiiojjhfncefgabDoor
set_option linter.unusedVariables false
set_option linter.unusedSimpArgs false
open Go.Creel Go.RowKit
abbrev tErr : TypeId := 24
abbrev noteV (bw : Nat) : Value := .func (.func 34) #[] #[.pointer (some ⟨bw, 0, none⟩)]
set_option maxRecDepth 100000 in
theorem RNote_any (bs bw bn : Nat) (s : ByteArray) (e f : Int) (w : World) (h : RefE tErr (noteV bw) w bs bw bn s e) :
    Calls Tryd.prog 34 #[.int .i64 f, .pointer (some ⟨bw, 0, none⟩)] w fun x w' => x = .returned (.tuple #[]) ∧ RefE tErr (noteV bw) w' bs bw bn s (note e f) ∧ w.grownBy w' (some bw) := by
  have H := Lib.hid h
  have c1 := h.wc
  have f1 := h.wf
  have HG := Lib.hid (grown_set w bw 0 (.int .i64 f))
  clear h
  by_cases h0 : e = 0
  · have hq : (e == 0) = true := by rw [beq_iff_eq]; exact h0
    have HN := Lib.hid (note_ok (f := f) h0)
    clear h0
    go_enter Tryd.func34, Tryd.ntmps34
    go_wp2
    go_end0
    rw [HN.out]
    exact ⟨rfl, H.out.put _, HG.out⟩
  · have hq : (e == 0) = false := by rw [beq_eq_false_iff_ne]; exact h0
    have HN := Lib.hid (note_bad (f := f) h0)
    clear h0
    go_enter Tryd.func34, Tryd.ntmps34
    go_wp2
    go_end0
    rw [HN.out]
    exact ⟨rfl, H.out, grown_refl _ _⟩
set_option maxRecDepth 100000 in
theorem RText_any (bs bw bn : Nat) (s : ByteArray) (a b : Nat) (wh : Bool) (e : Int) (w : World) (p : ByteArray × Int) (hp : fieldOf (s.extract a b) wh = p) (h : RefE tErr (noteV bw) w bs bw bn s e) (hab : a ≤ b) (hb : b ≤ s.size) (hs : s.size ≤ 1000) :
    Calls Tryd.prog 35 #[.int .i64 a, .int .i64 b, .bool wh, .pointer (some ⟨bs, 0, none⟩), .pointer (some ⟨bn, 0, none⟩)] w fun x w' => x = .returned (.string p.1) ∧ RefE tErr (noteV bw) w' bs bw bn s (note e p.2) ∧ w.grownBy w' (some bw) := by
  have HF := Lib.hid (fun w => FieldOf_any (s.extract a b) wh w (by unfold maxLen; simp; omega))
  have HN := Lib.hid (fun w f h => RNote_any bs bw bn s e f w h)
  have H := Lib.hid h
  have c0 := h.str
  rw [hp] at HF
  obtain ⟨p1, p2⟩ := p
  clear h hp
  go_enter Tryd.func35, Tryd.ntmps35
  go_wp2_with fail
  refine (HF.out _).mono ?_
  rintro x w2 ⟨rfl, hb2⟩
  have H2 := Lib.hid (H.out.below hb2)
  have G2 := Lib.hid (grown_below (row := some bw) hb2)
  have c1 := H2.out.fn
  clear hb2
  go_wp2_with fail
  refine (HN.out _ _ H2.out).mono ?_
  rintro x w3 ⟨rfl, h1, g1⟩
  have H3 := Lib.hid h1
  have G3 := Lib.hid (grown_trans G2.out g1)
  clear h1 g1
  go_wp2
  go_ret
  exact ⟨rfl, H3.out, G3.out⟩
set_option maxRecDepth 100000 in
theorem RNum_any (bs bw bn : Nat) (s : ByteArray) (a b : Nat) (e : Int) (w : World) (p : Int × Int) (hp : octOf (s.extract a b) = p) (h : RefE tErr (noteV bw) w bs bw bn s e) (hab : a ≤ b) (hb : b ≤ s.size) (hs : s.size ≤ 1000) :
    Calls Tryd.prog 37 #[.int .i64 a, .int .i64 b, .pointer (some ⟨bs, 0, none⟩), .pointer (some ⟨bn, 0, none⟩)] w fun x w' => x = .returned (.int .i64 p.1) ∧ RefE tErr (noteV bw) w' bs bw bn s (note e p.2) ∧ w.grownBy w' (some bw) := by
  have HF := Lib.hid (fun w => OctalOf_any (s.extract a b) w (by unfold maxLen; simp; omega))
  have HN := Lib.hid (fun w f h => RNote_any bs bw bn s e f w h)
  have H := Lib.hid h
  have c0 := h.str
  rw [hp] at HF
  obtain ⟨p1, p2⟩ := p
  clear h hp
  go_enter Tryd.func37, Tryd.ntmps37
  go_wp2_with fail
  refine (HF.out _).mono ?_
  rintro x w2 ⟨rfl, hb2⟩
  have H2 := Lib.hid (H.out.below hb2)
  have G2 := Lib.hid (grown_below (row := some bw) hb2)
  have c1 := H2.out.fn
  clear hb2
  go_wp2_with fail
  refine (HN.out _ _ H2.out).mono ?_
  rintro x w3 ⟨rfl, h1, g1⟩
  have H3 := Lib.hid h1
  have G3 := Lib.hid (grown_trans G2.out g1)
  clear h1 g1
  go_wp2
  go_ret
  exact ⟨rfl, H3.out, G3.out⟩
set_option maxRecDepth 100000 in
theorem RJust_any (bs bw bn : Nat) (s t : ByteArray) (a b m : Nat) (e j : Int) (w : World) (hj : justE s a b t = j) (h : RefE tErr (noteV bw) w bs bw bn s e) (hm : t.size = m) (hab : a + m = b) (hb : b ≤ s.size) (hs : s.size ≤ 1000) :
    Calls Tryd.prog 39 #[.int .i64 a, .string t, .pointer (some ⟨bs, 0, none⟩), .pointer (some ⟨bn, 0, none⟩)] w fun x w' => x = .returned (.tuple #[]) ∧ RefE tErr (noteV bw) w' bs bw bn s (note e j) ∧ w.grownBy w' (some bw) := by
  have HN := Lib.hid (fun w f h => RNote_any bs bw bn s e f w h)
  have H := Lib.hid h
  have c0 := h.str
  clear h
  subst hab
  by_cases he : s.extract a (a + m) = t
  · have hq := seq_t he
    have HJ := Lib.hid (show note e j = e by
      rw [← hj]; unfold justE note; rw [if_pos he]; split <;> omega)
    clear he hj
    go_enter Tryd.func39, Tryd.ntmps39
    go_wp2
    go_end0
    rw [HJ.out]
    exact ⟨rfl, H.out, grown_refl _ _⟩
  · have hq := seq_f he
    have HJ := Lib.hid (show j = 3 by rw [← hj]; unfold justE; rw [if_neg he])
    clear he hj
    have c1 := H.out.fn
    go_enter Tryd.func39, Tryd.ntmps39
    go_wp2_with fail
    refine (HN.out _ _ H.out).mono ?_
    rintro x w3 ⟨rfl, h1, g1⟩
    have H3 := Lib.hid h1
    have G3 := Lib.hid g1
    clear h1 g1
    go_wp2
    go_end0
    rw [HJ.out]
    exact ⟨rfl, H3.out, G3.out⟩
end Go.Proofs.YtiiojjhfncefgabDoor
