/-
  creelref.table, walked: for any two closures that answer as told.
-/
import Derived.Test.YtecmcgedeaemgaaDoorFitSpec

namespace Go.Creel
set_option linter.unusedVariables false
set_option linter.unusedSimpArgs false
open Go.RowKit
/-- a block of so many truth values -/
def boolArr (n : Nat) (f : Nat → Bool) : Array Value := ((List.range n).map fun j => .bool (f j)).toArray
theorem boolArr_size (n : Nat) (f : Nat → Bool) : (boolArr n f).size = n := by simp [boolArr]
theorem boolArr_at {n : Nat} {f : Nat → Bool} {j : Nat} (h : j < n) : (boolArr n f)[j]? = some (.bool (f j)) := by simp [boolArr, h]
theorem boolArr_made (n : Nat) : madeCells #[.bool false] n = boolArr n noFit := by
  apply Array.ext'
  simp only [madeCells, boolArr, noFit]
  apply List.ext_getElem?
  intro j
  by_cases h : j < n <;> simp [h, Nat.mod_one]
theorem boolArr_set (n : Nat) (f : Nat → Bool) (c : Nat) (b : Bool) : (boolArr n f).setIfInBounds c (.bool b) = boolArr n (tokUpd f c b) := by
  apply Array.ext'
  simp only [boolArr, Array.toList_setIfInBounds]
  apply List.ext_getElem?
  intro j
  rw [List.getElem?_set]
  unfold tokUpd
  by_cases hj : j < n
  · by_cases e : c = j
    · subst e; simp [hj]
    · have e2 : ¬ j = c := fun h => e h.symm
      simp [hj, e, e2]
  · by_cases e : c = j
    · subst e; simp [hj]
    · simp [hj, e]
def BoolRow (t : TypeId) (w : World) (g n : Nat) (f : Nat → Bool) : Prop := w.heap[g]? = some (.cells (boolArr n f) t (0, 0))
section
variable {t : TypeId} {w w' : World} {g n : Nat} {f : Nat → Bool}
theorem BoolRow.cell (h : BoolRow t w g n f) {j : Nat} (hj : j < n) : w.cell? ⟨g, j, none⟩ = some (.bool (f j)) := by rw [cell_of_row w g j _ t (0, 0) h]; exact boolArr_at hj
theorem BoolRow.free (h : BoolRow t w g n f) (j : Nat) : w.frozen? ⟨g, j, none⟩ = false := frozen_of_row w g j _ t h
theorem BoolRow.lt (h : BoolRow t w g n f) : g < w.heap.size := (Array.getElem?_eq_some_iff.1 h).1
theorem BoolRow.below (h : BoolRow t w g n f) (hb : Below w.heap.size w w') : BoolRow t w' g n f := (hb.block g h.lt).trans h
theorem BoolRow.store (h : BoolRow t w g n f) (c : Nat) (b : Bool) : BoolRow t (w.setCell ⟨g, c, none⟩ (.bool b)) g n (tokUpd f c b) := by
  unfold BoolRow
  rw [heap_setCell_same w g c _ t _ h, boolArr_set]
theorem BoolRow.other (h : BoolRow t w g n f) {k : Nat} (hk : g ≠ k) (c : Nat) (v : Value) : BoolRow t (w.setCell ⟨k, c, none⟩ v) g n f :=
  (heap_setCell_other w ⟨k, c, none⟩ g v hk).trans h
theorem BoolRow.made (w : World) (n : Nat) : BoolRow t (w.alloc (.cells (boolArr n noFit) t)) w.heap.size n noFit := by
  unfold BoolRow
  exact heap_alloc_new w _
theorem BoolRow.alloc (h : BoolRow t w g n f) (o : Obj) : BoolRow t (w.alloc o) g n f := h.below ((Below.refl _ _).alloc (Nat.le_refl _) o)
end
end Go.Creel
namespace Go.Proofs.YtecmcgedeaemgaaDoor
set_option linter.unusedVariables false
set_option linter.unusedSimpArgs false
open Go.Creel Go.RowKit
theorem info_bool : (Tryd.prog.info? 4).map (fun i => (i.zero, i.size, i.bytes)) = some (some (.bool false), 1, 1) := by kernel_rfl
theorem make_bools (w : World) (n : Nat) (x : Int) (hx : x = (n : Int)) (hn : n ≤ 1000000) : (Instr.makeSlice 124 (.int .i64 x) (.int .i64 x)).run Tryd.prog w = .ok (.slice (some ⟨w.heap.size, 0, none⟩) n n) (w.alloc (.cells (boolArr n noFit) 4)) := by
  subst hx
  obtain ⟨i, hi, hz, h1, hb⟩ := info_parts info_bool
  have hr := run_make (P := Tryd.prog) w 124 4 i (.bool false) Tryd.underlying124 hi hz .i64 .i64 n n (by omega) (Int.le_refl _) (by rw [hb]; omega) (by omega)
  simp only [Int.toNat_natCast, h1, Nat.mul_one, Value.cells] at hr
  rw [boolArr_made] at hr
  exact hr
set_option maxRecDepth 100000 in
set_option maxHeartbeats 4000000 in
theorem Table_any (n m : Nat) (Fs Ff : FuncId) (a1 a2 : Addr) (star : Nat → Bool) (fits : Nat → Nat → Bool) (w : World) (hn : n ≤ 1000) (hm : m ≤ 1000)
    (hcs : ∀ (args : Array Value) (w : World), (callFunc Fs args).run Tryd.prog w = .ok (.enter Fs args) w) (hcf : ∀ (args : Array Value) (w : World), (callFunc Ff args).run Tryd.prog w = .ok (.enter Ff args) w)
    (hS : ∀ w' (i : Nat), Below w.heap.size w w' → i < n → Calls Tryd.prog Fs #[.int .i64 i, .pointer (some a1)] w' fun e w2 => e = .returned (.bool (star i)) ∧ Below w'.heap.size w' w2)
    (hF : ∀ w' (i k : Nat), Below w.heap.size w w' → i < n → k < m → Calls Tryd.prog Ff #[.int .i64 i, .int .i64 k, .pointer (some a1), .pointer (some a2)] w' fun e w2 => e = .returned (.bool (fits i k)) ∧ Below w'.heap.size w' w2) :
    Calls Tryd.prog 64 #[.int .i64 n, .int .i64 m, .func (.func Fs) #[] #[.pointer (some a1)], .func (.func Ff) #[] #[.pointer (some a1), .pointer (some a2)]] w fun e w' => e = .returned (.bool (wildP star fits n m)) ∧ Below w.heap.size w w' := by
  have HS := Lib.hid hS
  have HF := Lib.hid hF
  have hmk := fun w => make_bools w (m + 1) ((m : Int) + 1) (by omega) (by omega)
  clear hS hF
  have H0 := Lib.hid (BoolRow.made (t := 4) w (m + 1))
  have c0 := H0.out.cell (j := 0) (by omega)
  have z0 := H0.out.free 0
  have H1 := Lib.hid (show BoolRow 4 (w.alloc (.cells ((boolArr (m + 1) noFit).setIfInBounds 0 (.bool true)) 4)) w.heap.size (m + 1) (tokUpd noFit 0 true) by rw [boolArr_set]; exact heap_alloc_new w _)
  have HP0 := Lib.hid (show ∀ j, j < m + 1 → tokUpd noFit 0 true j = wildP star fits 0 j by
    intro j _
    cases j with
    | zero => rw [tokUpd_same, wildP]
    | succ j => rw [tokUpd_other _ _ (by omega), wildP]; rfl)
  have HBW := Lib.hid ((Below.refl w.heap.size w).alloc (Nat.le_refl _) (.cells ((boolArr (m + 1) noFit).setIfInBounds 0 (.bool true)) 4))
  go_enter Tryd.func64, Tryd.ntmps64
  go_wp2
  go_loopw [9, 10] (fun v9 v10 wr => ∃ (i g : Nat) (rf : Nat → Bool), i ≤ n ∧ v10 = .int .i64 i ∧ v9 = .slice (some ⟨g, 0, none⟩) (m + 1) (m + 1) ∧ Hid (BoolRow 4 wr g (m + 1) rf) ∧ Hid (∀ j, j < m + 1 → rf j = wildP star fits i j) ∧ Hid (Below w.heap.size w wr)) (fun _ v10 _ => n - (intOf v10).toNat)
  case atStart => exact ⟨0, _, _, by omega, rfl, rfl, H1, HP0, HBW⟩
  case round =>
    obtain ⟨i, g, rf, hi, rfl, rfl, HG, HR, HB⟩ := hrel
    clear c0 z0 H1 HP0 HBW H0
    by_cases hin : i < n
    · have HG1 := Lib.hid (HG.out.alloc (.cells (boolArr (m + 1) noFit) 4))
      have HN1 := Lib.hid (BoolRow.made (t := 4) wr (m + 1))
      have HB1 := Lib.hid (HB.out.alloc HB.out.size (.cells (boolArr (m + 1) noFit) 4))
      have HGL := Lib.hid HG.out.lt
      have HHB := Lib.hid HB.out.size
      go_upto_region 7 with fail
      generalize wr.alloc (.cells (boolArr (m + 1) noFit) 4) = wv at *
      generalize wr.heap.size = h at *
      have hgh : g ≠ h := by have := HGL.out; omega
      go_cut [] from 26 to 35 (fun wc => Hid (BoolRow 4 wc g (m + 1) rf) ∧ Hid (BoolRow 4 wc h (m + 1) (tokUpd noFit 0 (wildP star fits (i + 1) 0))) ∧ Hid (Below w.heap.size w wc))
      case first =>
        have cg := HG1.out.cell (j := 0) (by omega)
        have HW0 := Lib.hid (show wildP star fits (i + 1) 0 = (rf 0 && star i) by rw [wildP, HR.out 0 (by omega)])
        have HC1 := Lib.hid (HS.out wv i HB1.out hin)
        have ch := HN1.out.cell (j := 0) (by omega)
        have zh := HN1.out.free 0
        cases hr0 : rf 0 with
        | true =>
          rw [hr0] at HW0 cg
          clear hr0 ch zh
          go_wp2_with fail
          refine HC1.out.mono ?_
          rintro e w3 ⟨rfl, hb⟩
          have HN3 := Lib.hid (HN1.out.below hb)
          have HG3 := Lib.hid (HG1.out.below hb)
          have HB3 := Lib.hid (HB1.out.trans (hb.mono HB1.out.size))
          have ch := HN3.out.cell (j := 0) (by omega)
          have zh := HN3.out.free 0
          clear hb
          go_wp2
          go_meet
          exact ⟨Lib.hid (HG3.out.other hgh _ _), Lib.hid (by rw [HW0.out]; exact HN3.out.store 0 _), Lib.hid (HB3.out.setCell HHB.out _)⟩
        | false =>
          rw [hr0] at HW0 cg
          clear hr0
          go_wp2
          go_meet
          exact ⟨Lib.hid (HG1.out.other hgh _ _), Lib.hid (by rw [HW0.out]; exact HN1.out.store 0 _), Lib.hid (HB1.out.setCell HHB.out _)⟩
      case rest =>
        obtain ⟨HG2, HN2, HB2⟩ := hcut
        have HP2 := Lib.hid (show ∀ j, j ≤ 0 → tokUpd noFit 0 (wildP star fits (i + 1) 0) j = wildP star fits (i + 1) j by
          intro j hj
          obtain rfl : j = 0 := by omega
          rw [tokUpd_same])
        go_wp2
        go_loopw [12] (fun v12 w5 => ∃ (k : Nat) (nf : Nat → Bool), k ≤ m ∧ v12 = .int .i64 k ∧ Hid (BoolRow 4 w5 g (m + 1) rf) ∧ Hid (BoolRow 4 w5 h (m + 1) nf) ∧ Hid (∀ j, j ≤ k → nf j = wildP star fits (i + 1) j) ∧ Hid (Below w.heap.size w w5)) (fun v12 _ => m - (intOf v12).toNat)
        case atStart => exact ⟨0, _, by omega, rfl, HG2, HN2, HP2, HB2⟩
        case round =>
          obtain ⟨k, nf, hk, rfl, HG5, HN5, HP5, HB5⟩ := hrel
          clear HG2 HN2 HP2 HB2 HG1 HN1 HB1 HG HB
          by_cases hkm : k < m
          · have HC5 := Lib.hid (HS.out _ i HB5.out hin)
            have HPN := Lib.hid (fun (b : Bool) (hb : wildP star fits (i + 1) (k + 1) = b) => show ∀ j, j ≤ k + 1 → tokUpd nf (k + 1) b j = wildP star fits (i + 1) j from fun j hj => by
              by_cases e : j = k + 1
              · rw [e, tokUpd_same, hb]
              · rw [tokUpd_other _ _ e]; exact HP5.out j (by omega))
            cases hst : star i with
            | true =>
              have HW := Lib.hid (show wildP star fits (i + 1) (k + 1) = (rf (k + 1) || nf k) by rw [wildP, if_pos hst, HR.out (k + 1) (by omega), HP5.out k (Nat.le_refl _)])
              rw [hst] at HC5
              clear hst
              go_wp2_with fail
              refine HC5.out.mono ?_
              rintro e w6 ⟨rfl, hb⟩
              have HN6 := Lib.hid (HN5.out.below hb)
              have HG6 := Lib.hid (HG5.out.below hb)
              have HB6 := Lib.hid (HB5.out.trans (hb.mono HB5.out.size))
              have ch := HN6.out.cell (j := k + 1) (by omega)
              have ck := HN6.out.cell (j := k) (by omega)
              have zh := HN6.out.free (k + 1)
              have cg := HG6.out.cell (j := k + 1) (by omega)
              clear hb
              cases hr : rf (k + 1) with
              | true =>
                rw [hr] at HW cg
                clear hr
                go_wp2
                go_roundw
                case rel => exact ⟨k + 1, _, by omega, by go_num, Lib.hid (HG6.out.other hgh _ _), Lib.hid (HN6.out.store (k + 1) _), Lib.hid (HPN.out _ HW.out), Lib.hid (HB6.out.setCell HHB.out _)⟩
                case measure => simp [intOf]; omega
              | false =>
                rw [hr] at HW cg
                clear hr
                go_wp2
                go_roundw
                case rel => exact ⟨k + 1, _, by omega, by go_num, Lib.hid (HG6.out.other hgh _ _), Lib.hid (HN6.out.store (k + 1) _), Lib.hid (HPN.out _ HW.out), Lib.hid (HB6.out.setCell HHB.out _)⟩
                case measure => simp [intOf]; omega
            | false =>
              have HW := Lib.hid (show wildP star fits (i + 1) (k + 1) = (rf k && fits i k) by rw [wildP, if_neg (by rw [hst]; simp), HR.out k (by omega)])
              rw [hst] at HC5
              clear hst
              go_wp2_with fail
              refine HC5.out.mono ?_
              rintro e w6 ⟨rfl, hb⟩
              have HN6 := Lib.hid (HN5.out.below hb)
              have HG6 := Lib.hid (HG5.out.below hb)
              have HB6 := Lib.hid (HB5.out.trans (hb.mono HB5.out.size))
              have cg := HG6.out.cell (j := k) (by omega)
              clear hb
              cases hr : rf k with
              | true =>
                rw [hr] at HW cg
                clear hr
                have HC6 := Lib.hid (HF.out _ i k HB6.out hin hkm)
                go_wp2_with fail
                refine HC6.out.mono ?_
                rintro e w7 ⟨rfl, hb⟩
                have HN7 := Lib.hid (HN6.out.below hb)
                have HG7 := Lib.hid (HG6.out.below hb)
                have HB7 := Lib.hid (HB6.out.trans (hb.mono HB6.out.size))
                have ch := HN7.out.cell (j := k + 1) (by omega)
                have zh := HN7.out.free (k + 1)
                clear hb
                go_wp2
                go_roundw
                case rel => exact ⟨k + 1, _, by omega, by go_num, Lib.hid (HG7.out.other hgh _ _), Lib.hid (HN7.out.store (k + 1) _), Lib.hid (HPN.out _ HW.out), Lib.hid (HB7.out.setCell HHB.out _)⟩
                case measure => simp [intOf]; omega
              | false =>
                rw [hr] at HW cg
                clear hr
                have ch := HN6.out.cell (j := k + 1) (by omega)
                have zh := HN6.out.free (k + 1)
                go_wp2
                go_roundw
                case rel => exact ⟨k + 1, _, by omega, by go_num, Lib.hid (HG6.out.other hgh _ _), Lib.hid (HN6.out.store (k + 1) _), Lib.hid (HPN.out _ HW.out), Lib.hid (HB6.out.setCell HHB.out _)⟩
                case measure => simp [intOf]; omega
          · obtain rfl : k = m := by omega
            have HPE := Lib.hid (show ∀ j, j < k + 1 → nf j = wildP star fits (i + 1) j from fun j hj => HP5.out j (by omega))
            go_wp2
            go_roundw
            case rel => exact ⟨i + 1, h, nf, by omega, by go_num, rfl, HN5, HPE, HB5⟩
            case measure => simp [intOf]; omega
    · obtain rfl : i = n := by omega
      have cg := HG.out.cell (j := m) (by omega)
      have HE := Lib.hid (HR.out m (by omega))
      go_wp2
      go_ret
      exact ⟨ret_b HE.out.symm, HB.out⟩
end Go.Proofs.YtecmcgedeaemgaaDoor
