/-
  Texts: Pen.
-/
import Derived.Test.YtaffgndickdbiaaGreatDoorR09
import Derived.Lib.Builder
import Derived.Lib.AppendStr
import Derived.Lib.UnsafeStr
set_option linter.unusedVariables false
set_option linter.unusedSimpArgs false
set_option linter.unusedSectionVars false
namespace Go.Creel
open Go.RowKit
def PenIs (T e : TypeId) (B b : Nat) (q : Value) (bs : List UInt8) (k : Int) (w : World) : Prop :=
  B ≤ b ∧ ∃ v, w.heap[b]? = some (.cells #[q, v, .int .i64 k] T (0, 0)) ∧ OwnBs e w B v bs ∧ v.ownBlock ≠ some b
variable {T e : TypeId} {B b : Nat} {q : Value} {bs : List UInt8} {k : Int} {w : World}
theorem PenIs.lt (h : PenIs T e B b q bs k w) : b < w.heap.size := by
  obtain ⟨_, v, hb, _⟩ := h
  exact (Array.getElem?_eq_some_iff.1 hb).1
theorem ownBs_below {w w' : World} {v : Value} (h : OwnBs e w B v bs) (hb : Below w.heap.size w w') : OwnBs e w' B v bs := by
  refine ⟨h.1, ?_⟩
  rcases h.2 with h0 | ⟨g, cap, cur, hv, hbg, hg, r⟩
  · exact .inl h0
  · refine .inr ⟨g, cap, cur, hv, hbg, ?_, r⟩
    rw [hb.block g (Array.getElem?_eq_some_iff.1 hg).1]
    exact hg
theorem PenIs.below {w' : World} (h : PenIs T e B b q bs k w) (hw : Below w.heap.size w w') : PenIs T e B b q bs k w' := by
  have hlt := h.lt
  obtain ⟨hB, v, hb, ho, hne⟩ := h
  exact ⟨hB, v, (hw.block b hlt).trans hb, ownBs_below ho hw, hne⟩
theorem PenIs.used (h : PenIs T e B b q bs k w) (q' : Value) : PenIs T e B b q' bs k (w.setCell ⟨b, 0, none⟩ q') := by
  obtain ⟨hB, v, hb, ho, hne⟩ := h
  refine ⟨hB, v, ?_, ?_, hne⟩
  · simp [World.setCell, Array.getElem?_modify, hb]
  · refine World.ownsRow.kept (row := some b) ho ⟨rfl, rfl, rfl, by simp [World.setCell], fun k _ hk => Below.heap_setCell _ _ _ _ (fun e => hk (by simp [e]))⟩ (Or.inr hne)
theorem PenIs.wrong (h : PenIs T e B b q bs k w) (k' : Int) : PenIs T e B b q bs k' (w.setCell ⟨b, 2, none⟩ (.int .i64 k')) := by
  obtain ⟨hB, v, hb, ho, hne⟩ := h
  refine ⟨hB, v, ?_, ?_, hne⟩
  · simp [World.setCell, Array.getElem?_modify, hb]
  · refine World.ownsRow.kept (row := some b) ho ⟨rfl, rfl, rfl, by simp [World.setCell], fun k _ hk => Below.heap_setCell _ _ _ _ (fun e => hk (by simp [e]))⟩ (Or.inr hne)
theorem PenIs.buf {v v' : Value} {bs' : List UInt8} (hB : B ≤ b) (hb : w.heap[b]? = some (.cells #[q, v, .int .i64 k] T (0, 0))) (ho : OwnBs e w B v' bs') (hTe : T ≠ e) : PenIs T e B b q bs' k (w.setCell ⟨b, 1, none⟩ v') := by
  have hne := Lib.ownBlock_ne ho hb hTe
  refine ⟨hB, v', ?_, ?_, hne⟩
  · simp [World.setCell, Array.getElem?_modify, hb]
  · refine World.ownsRow.kept (row := some b) ho ⟨rfl, rfl, rfl, by simp [World.setCell], fun k _ hk => Below.heap_setCell _ _ _ _ (fun e => hk (by simp [e]))⟩ (Or.inr hne)
theorem PenIs.new (T e : TypeId) (w : World) : PenIs T e w.heap.size w.heap.size (.pointer none) [] 0 (w.alloc (.cells #[.pointer none, .slice none 0 0, .int .i64 0] T)) :=
  ⟨Nat.le_refl _, .slice none 0 0, heap_alloc_new w _, World.ownsRow_nil _ _ _ _, by simp [Value.ownBlock]⟩
theorem strCells_bytes (s : ByteArray) : Lib.strCells s = s.data.toList.map byteV := rfl
end Go.Creel
namespace Go.Proofs.YtaffgndickdbiaaGreatDoor
open Go.Creel Go.RowKit
theorem info_bu : (Tryz.prog.info? 124).map (·.size) = some 2 := by kernel_rfl
theorem lies_bu : liesAt Tryz.prog Tryz.prog.depth 129 (3 / Tryz.prog.cellsOf 129) 0 124 1 = true := by kernel_rfl
theorem cells_by : Tryz.prog.cellsOf 5 = 1 := by kernel_rfl
theorem info_by : (Tryz.prog.info? 5).map (fun i => (i.zero, i.size, i.bytes)) = some (some (.int .u8 0), 1, 1) := by kernel_rfl
set_option maxHeartbeats 1000000 in
set_option maxRecDepth 100000 in
theorem CopyUsed (b : Nat) (w : World) (h0 : w.cell? ⟨b, 0, none⟩ = some (.pointer (some ⟨b, 0, none⟩))) :
    Calls Tryz.prog 150 #[.pointer (some ⟨b, 0, none⟩)] w fun e w' => e = .returned (.tuple #[]) ∧ w' = w := by
  obtain ⟨j, hj, _⟩ := Option.map_eq_some_iff.1 info_bu
  go_enter Tryz.func150, Tryz.ntmps150
  go_wp2
  rw [Lib.run_neq_ptr_same w _ Tryz.underlying122 hj]
  go_wp2
  go_end0
  exact ⟨rfl, rfl⟩
set_option maxHeartbeats 1000000 in
set_option maxRecDepth 100000 in
theorem CopyFresh (b : Nat) (w : World) (h0 : w.cell? ⟨b, 0, none⟩ = some (.pointer none)) (hsh : w.shape? b = some (129, 3)) (hfz : w.frozen? ⟨b, 0, none⟩ = false) :
    Calls Tryz.prog 150 #[.pointer (some ⟨b, 0, none⟩)] w fun e w' => e = .returned (.tuple #[]) ∧ w' = w.setCell ⟨b, 0, none⟩ (.pointer (some ⟨b, 0, none⟩)) := by
  obtain ⟨j, hj, hjs⟩ := Option.map_eq_some_iff.1 info_bu
  go_enter Tryz.func150, Tryz.ntmps150
  go_wp2
  rw [Lib.run_to_unsafe w ⟨b, 0, none⟩ Tryz.underlying122 Tryz.underlying215 hj (by rw [hjs]; decide) hsh (Nat.zero_lt_succ 2)]
  simp only [Result.andThen]
  rw [Oper.upon_value]
  go_wp2
  rw [run_callFunc_extern Tryz.func201 (by kernel_rfl) (by kernel_rfl) (by kernel_rfl) (e := Extern.AbiNoEscape.same) (by kernel_rfl)]
  rw [Lib.run_noEscape]
  simp only [Result.andThen]
  rw [Oper.upon_value]
  go_wp2
  rw [Lib.run_from_unsafe w ⟨b, 0, none⟩ Tryz.underlying215 Tryz.underlying122 hj hsh lies_bu]
  simp only [Result.andThen]
  rw [Oper.upon_value]
  go_wp2
  go_end0
  exact ⟨rfl, rfl⟩
abbrev PenAt (B b : Nat) (q : Value) (bs : List UInt8) (k : Int) (w : World) : Prop := PenIs 129 5 B b q bs k w
def PenBe (B b : Nat) (bs : List UInt8) (k : Int) (w : World) : Prop := PenAt B b (.pointer none) bs k w ∨ PenAt B b (.pointer (some ⟨b, 0, none⟩)) bs k w
theorem Copy_any (B b : Nat) (bs : List UInt8) (k : Int) (w : World) (h : PenBe B b bs k w) :
    Calls Tryz.prog 150 #[.pointer (some ⟨b, 0, none⟩)] w fun e w' => e = .returned (.tuple #[]) ∧ PenAt B b (.pointer (some ⟨b, 0, none⟩)) bs k w' ∧ Below B w w' := by
  rcases h with h | h
  · have h' := h
    obtain ⟨hB, v, hb, ho, hne⟩ := h'
    refine (CopyFresh b w (by rw [Lib.cell_of_heap hb]; rfl) (by simp [World.shape?, hb]) (Lib.frozen_of_heap hb 0)).mono ?_
    rintro e w' ⟨rfl, rfl⟩
    exact ⟨rfl, h.used _, (Below.refl B w).setCell (p := ⟨b, 0, none⟩) hB _⟩
  · have h' := h
    obtain ⟨hB, v, hb, ho, hne⟩ := h'
    refine (CopyUsed b w (by rw [Lib.cell_of_heap hb]; rfl)).mono ?_
    rintro e w' ⟨rfl, rfl⟩
    exact ⟨rfl, h, Below.refl B _⟩
set_option maxHeartbeats 2000000 in
set_option maxRecDepth 100000 in
theorem WriteS_any (B b : Nat) (bs : List UInt8) (k : Int) (s : ByteArray) (w : World) (h : PenBe B b bs k w) (hlen : bs.length + s.size ≤ 140737488355328) (hBw : B ≤ w.heap.size) :
    Calls Tryz.prog 93 #[.pointer (some ⟨b, 0, none⟩), .string s] w fun e w' => e = .returned (.tuple #[.int .i64 s.size, .nilIface]) ∧ PenAt B b (.pointer (some ⟨b, 0, none⟩)) (bs ++ s.data.toList) k w' ∧ Below B w w' := by
  obtain ⟨i0, hi, hz0, hz1, hz2⟩ := info_parts info_by
  go_enter Tryz.func93, Tryz.ntmps93
  go_wp2_with fail
  refine (Copy_any B b bs k _ h).mono ?_
  rintro e w1 ⟨rfl, h1, hb1⟩
  obtain ⟨hB, v, hbk, hown, hne⟩ := h1
  have c0 : w1.cell? ⟨b, 0, none⟩ = some (.pointer (some ⟨b, 0, none⟩)) := by rw [Lib.cell_of_heap hbk]; rfl
  have c1 : w1.cell? ⟨b, 1, none⟩ = some v := by rw [Lib.cell_of_heap hbk]; rfl
  go_wp2_with (at_builtin; refine Lib.wpList_append_own_string _ rfl _ _ 24 9 rfl B 5 i0 Tryz.underlying24 Tryz.underlying9 hi hz0 hz1 hz2 _ _ _ rfl hown s rfl ?c3 ?c4 ?c5 ?_)
  case c3 => unfold maxLen; omega
  case c4 => exact hlen
  case c5 => have := hb1.size; omega
  intro v' w2 hown' hgrow _
  have hlt : b < w1.heap.size := (Array.getElem?_eq_some_iff.1 hbk).1
  have hb2 : w2.heap[b]? = some (.cells #[.pointer (some ⟨b, 0, none⟩), v, .int .i64 k] 129 (0, 0)) := by
    rw [hgrow.block b hlt (fun e => hne e.symm)]
    exact hbk
  have d0 : w2.cell? ⟨b, 0, none⟩ = some (.pointer (some ⟨b, 0, none⟩)) := by rw [Lib.cell_of_heap hb2]; rfl
  have d1 : w2.cell? ⟨b, 1, none⟩ = some v := by rw [Lib.cell_of_heap hb2]; rfl
  have f1 : w2.frozen? ⟨b, 1, none⟩ = false := Lib.frozen_of_heap hb2 1
  have ho2 : OwnBs 5 w2 B v' (bs ++ s.data.toList) := by
    have := hown'
    rw [strCells_bytes] at this
    unfold OwnBs
    rw [List.length_append, List.map_append]
    simpa using this
  obtain ⟨ao, n', cap, rfl⟩ : ∃ ao n' cap, v' = .slice ao n' cap := by
    rcases hown'.2 with ⟨hv, _⟩ | ⟨g, cap, cur, hv, _⟩
    · exact ⟨_, _, _, hv⟩
    · exact ⟨_, _, _, hv⟩
  go_wp2
  go_ret2
  refine ⟨rfl, ?_, ?_⟩
  · exact PenIs.buf hB hb2 ho2 (by decide)
  · exact (hb1.grown hgrow (by have := hb1.size; omega) (fun k hk => (World.ownsRow.lt hown k hk).1)).setCell (p := ⟨b, 1, none⟩) hB _
def PenB (B b : Nat) (p : Pen) (w : World) : Prop := PenBe B b p.1.data.toList p.2 w
theorem PenB.below {B b : Nat} {p : Pen} {w w' : World} (h : PenB B b p w) (hb : Below w.heap.size w w') : PenB B b p w' := h.elim (fun h => .inl (h.below hb)) (fun h => .inr (h.below hb))
theorem PenB.lt {B b : Nat} {p : Pen} {w : World} (h : PenB B b p w) : b < w.heap.size := h.elim (fun h => h.lt) (fun h => h.lt)
theorem PenB.new (w : World) : PenB w.heap.size w.heap.size (ByteArray.empty, 0) (w.alloc (.cells #[.pointer none, .slice none 0 0, .int .i64 0] 129)) := .inl (PenIs.new _ _ w)
theorem PenB.err {B b : Nat} {p : Pen} {w : World} (h : PenB B b p w) : w.cell? ⟨b, 2, none⟩ = some (.int .i64 p.2) ∧ w.frozen? ⟨b, 2, none⟩ = false ∧ B ≤ b := by
  rcases h with ⟨hB, v, hb, _⟩ | ⟨hB, v, hb, _⟩
  · exact ⟨by rw [Lib.cell_of_heap hb]; rfl, Lib.frozen_of_heap hb 2, hB⟩
  · exact ⟨by rw [Lib.cell_of_heap hb]; rfl, Lib.frozen_of_heap hb 2, hB⟩
set_option maxHeartbeats 2000000 in
set_option maxRecDepth 100000 in
theorem Put_any (B b : Nat) (p : Pen) (s : ByteArray) (e : Int) (w : World) (h : PenB B b p w) (hlen : p.1.size + s.size ≤ 1000000) (hBw : B ≤ w.heap.size) :
    Calls Tryz.prog 95 #[.pointer (some ⟨b, 0, none⟩), .string s, .int .i64 e] w fun x w' => x = .returned (.tuple #[]) ∧ PenB B b (penPut p (s, e)) w' ∧ Below B w w' := by
  obtain ⟨c2, f2, hB⟩ := h.err
  have hpl : p.1.data.toList.length = p.1.size := by simp
  by_cases h0 : p.2 = 0
  · have HP := Lib.hid (penPut_ok (x := (s, e)) h0)
    rw [h0] at c2
    have hw2 : PenBe B b p.1.data.toList e (w.setCell ⟨b, 2, none⟩ (.int .i64 e)) := h.elim (fun h => .inl (h.wrong e)) (fun h => .inr (h.wrong e))
    have HW := Lib.hid (WriteS_any B b p.1.data.toList e s _ hw2 (by rw [hpl]; omega) (by simpa using hBw))
    have HB0 := Lib.hid ((Below.refl B w).setCell (p := ⟨b, 2, none⟩) hB (.int .i64 e))
    clear h hw2
    go_enter Tryz.func95, Tryz.ntmps95
    go_wp2_with fail
    refine HW.out.mono ?_
    rintro x w1 ⟨rfl, h1, hb⟩
    have HB := Lib.hid (HB0.out.trans hb)
    have HQ := Lib.hid h1
    clear hb h1
    go_wp2
    go_end0
    refine ⟨rfl, ?_, HB.out⟩
    rw [HP.out]
    refine .inr ?_
    have := HQ.out
    rw [show (p.1 ++ s).data.toList = p.1.data.toList ++ s.data.toList by simp]
    exact this
  · have HP := Lib.hid (penPut_bad (x := (s, e)) h0)
    have hne : (p.2 == 0) = false := by rw [beq_eq_false_iff_ne]; exact h0
    have H := Lib.hid h
    clear h h0
    go_enter Tryz.func95, Tryz.ntmps95
    go_wp2
    go_end0
    exact ⟨rfl, by rw [HP.out]; exact H.out, Below.refl _ _⟩
set_option maxHeartbeats 2000000 in
set_option maxRecDepth 100000 in
theorem PenString_any (B b : Nat) (p : Pen) (w : World) (h : PenB B b p w) (h0 : p.1.size ≠ 0) (hlen : p.1.size ≤ 1000000) :
    Calls Tryz.prog 94 #[.pointer (some ⟨b, 0, none⟩)] w fun x w' => x = .returned (.string p.1) ∧ Below B w w' := by
  obtain ⟨q, hB, v, hbk, hown, hne⟩ : ∃ q, PenAt B b q p.1.data.toList p.2 w := by
    rcases h with h | h
    · exact ⟨_, h⟩
    · exact ⟨_, h⟩
  have hs : p.1.data.toList.length = p.1.size := by simp
  have he : (⟨p.1.data.toList.toArray⟩ : ByteArray) = p.1 := ofL_of p.1
  generalize hl : p.1.data.toList = l at *
  generalize p.1 = s at *
  have hl0 : l.length ≠ 0 := by omega
  have hln : l ≠ [] := fun e => hl0 (by rw [e]; rfl)
  obtain ⟨g, cap, cur, rfl, hbg, hg, hnc, hcm, hcs, htake⟩ : ∃ g cap cur, v = .slice (some ⟨g, 0, none⟩) l.length cap ∧ B ≤ g ∧ w.heap[g]? = some (.cells cur 5 (0, 0)) ∧ l.length ≤ cap ∧ cap ≤ maxLen ∧ cur.size = cap * 1 ∧ cur.toList.take (l.length * 1) = l.map byteV := by
    rcases hown.2 with ⟨_, hz⟩ | ⟨g, cap, cur, hv, r⟩
    · exact absurd hz hl0
    · exact ⟨g, cap, cur, hv, r⟩
  have c1 : w.drew.cell? ⟨b, 1, none⟩ = some (.slice (some ⟨g, 0, none⟩) l.length cap) := by
    have : w.drew.heap[b]? = some (.cells #[q, .slice (some ⟨g, 0, none⟩) l.length cap, .int .i64 p.2] 129 (0, 0)) := hbk
    rw [Lib.cell_of_heap this]; rfl
  have hSD : (Builtin.unsafeSliceData_ #[24] 171 #[.slice (some ⟨g, 0, none⟩) l.length cap]).run Tryz.prog w.drew = .ok (.pointer (some ⟨g, 0, none⟩)) w.drew :=
    Lib.run_unsafeSliceData_row _ _ _ _ _ _ (by omega)
  have hUS : (Builtin.unsafeString_ #[171, 3] 9 #[.pointer (some ⟨g, 0, none⟩), .int .i64 l.length]).run Tryz.prog w.drew = .ok (.string ⟨l.toArray⟩) (w.drew.freeze ⟨g, 0, none⟩ l.length) := by
    refine Lib.run_unsafeString_row w.drew 171 3 9 5 Tryz.underlying171 cells_by g cur.size (by have hg' : w.drew.heap[g]? = some (.cells cur 5 (0, 0)) := hg; simp [World.shape?, hg']) l hln (by omega) (by unfold maxLen at hcm; omega) ?_
    intro j x hx
    exact World.ownsRow.cells hown (g := g) rfl j (.int .u8 x.toNat) (by simp [hx, byteV])
  rw [he] at hUS
  have HBF := Lib.hid (Lib.below_freeze (Below.drew (Below.refl B w)) (p := ⟨g, 0, none⟩) hbg l.length)
  clear hown hne hbk hg htake hl he h hs
  go_enter Tryz.func94, Tryz.ntmps94
  go_wp2
  go_region
  all_goals (go_wp2; go_ret; exact ⟨rfl, HBF.out⟩)
end Go.Proofs.YtaffgndickdbiaaGreatDoor
