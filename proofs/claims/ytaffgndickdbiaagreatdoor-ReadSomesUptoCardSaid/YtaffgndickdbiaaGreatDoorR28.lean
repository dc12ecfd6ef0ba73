/-
  Texts: ZeroB, Eye.
-/
import Derived.Test.YtaffgndickdbiaaGreatDoorR27
set_option linter.unusedVariables false
set_option linter.unusedSimpArgs false
set_option linter.unusedSectionVars false
namespace Go.Proofs.YtaffgndickdbiaaGreatDoor
open Go.Creel Go.RowKit
theorem all_zeroB {l : List UInt8} (h : ∀ j, j < l.length → bl l j = 0) : l = List.replicate l.length 0 := by
  apply List.ext_getElem (by simp)
  intro i h1 h2
  rw [List.getElem_replicate]
  have := h i h1
  unfold bl at this
  rw [List.getD_eq_getElem?_getD, List.getElem?_eq_getElem h1] at this
  simp only [Option.getD_some] at this
  exact UInt8.toNat_inj.1 this
theorem one_oddB {l : List UInt8} {k : Nat} (hk : k < l.length) (h : bl l k ≠ 0) : ¬ l = List.replicate l.length 0 := by
  intro e
  apply h
  unfold bl
  rw [e, List.getD_eq_getElem?_getD, List.getElem?_replicate]
  simp [hk]
set_option maxRecDepth 100000 in
set_option maxHeartbeats 400000 in
theorem Zero_any (v : Value) (l : List UInt8) (w : World) (h : SliceC maxLen 1 ByteC w [v] l) :
    Calls Tryz.prog 62 #[v] w fun e w' => e = .returned (.bool (decide (l = List.replicate l.length 0))) ∧ w = w' := by
  rcases bytes_cases h with ⟨a, cap, rfl, rfl⟩ | ⟨b, off, cap, rfl, hpos, hle, hm, _, hc⟩
  · go_enter Tryz.func62, Tryz.ntmps62
    go_wp2
    go_loop [4, 7] (fun _ i => i = .int .i64 0) (fun _ _ => 0)
    case atStart => rfl
    case round =>
      obtain rfl := hrel
      go_wp2
      go_ret
      exact ⟨rfl, rfl⟩
  · unfold maxLen at hm
    have Hc := Lib.hid hc
    clear hc h
    go_enter Tryz.func62, Tryz.ntmps62
    go_wp2
    go_loop [4, 7] (fun _ i => ∃ k : Nat, k ≤ l.length ∧ i = .int .i64 k ∧ Hid (∀ j, j < k → bl l j = 0)) (fun _ i => l.length - (intOf i).toNat)
    case atStart => exact ⟨0, by omega, rfl, Lib.hid (fun j hj => absurd hj (by omega))⟩
    case round =>
      obtain ⟨k, hk, rfl, HD⟩ := hrel
      by_cases hlt : k < l.length
      · have hcell := Hc.out k hlt
        by_cases hz : bl l k = 0
        · have hq : ((bl l k : Int) != 0) = false := by rw [hz]; rfl
          have HZ := Lib.hid hz
          clear hz
          go_wp2
          go_round
          case rel => exact ⟨k + 1, by omega, by go_num, Lib.hid (fun j hj => by
            by_cases e : j = k
            · rw [e]; exact HZ.out
            · exact HD.out j (by omega))⟩
          case measure => simp [intOf]; omega
        · have hq : ((bl l k : Int) != 0) = true := by rw [bne_iff_ne]; omega
          have HF := Lib.hid (one_oddB hlt hz)
          clear hz
          go_wp2
          go_ret
          exact ⟨congrArg (fun q => Ending.returned (Value.bool q)) (decide_eq_false HF.out).symm, rfl⟩
      · obtain rfl : k = l.length := by omega
        have HF := Lib.hid (all_zeroB HD.out)
        go_wp2
        go_ret
        exact ⟨congrArg (fun q => Ending.returned (Value.bool q)) (decide_eq_true HF.out).symm, rfl⟩
end Go.Proofs.YtaffgndickdbiaaGreatDoor
namespace Go.Creel
open Go.RowKit
def EyeB (t : TypeId) (w : World) (b : Nat) (r : ByteArray) (e : Int) : Prop := w.heap[b]? = some (.cells #[.string r, .int .i64 e] t (0, 0))
theorem EyeB.c0 {t : TypeId} {w : World} {b : Nat} {r : ByteArray} {e : Int} (h : EyeB t w b r e) : w.cell? ⟨b, 0, none⟩ = some (.string r) := by rw [cell_of_row w b 0 _ t (0, 0) h]; rfl
theorem EyeB.c1 {t : TypeId} {w : World} {b : Nat} {r : ByteArray} {e : Int} (h : EyeB t w b r e) : w.cell? ⟨b, 1, none⟩ = some (.int .i64 e) := by rw [cell_of_row w b 1 _ t (0, 0) h]; rfl
theorem EyeB.free {t : TypeId} {w : World} {b : Nat} {r : ByteArray} {e : Int} (h : EyeB t w b r e) (j : Nat) : w.frozen? ⟨b, j, none⟩ = false := frozen_of_row w b j _ t h
theorem EyeB.lt {t : TypeId} {w : World} {b : Nat} {r : ByteArray} {e : Int} (h : EyeB t w b r e) : b < w.heap.size := (Array.getElem?_eq_some_iff.1 h).1
theorem EyeB.rest {t : TypeId} {w : World} {b : Nat} {r : ByteArray} {e : Int} (h : EyeB t w b r e) (r' : ByteArray) : EyeB t (w.setCell ⟨b, 0, none⟩ (.string r')) b r' e := by
  unfold EyeB
  rw [heap_setCell_same w b 0 _ t _ h]
  rfl
theorem EyeB.err {t : TypeId} {w : World} {b : Nat} {r : ByteArray} {e : Int} (h : EyeB t w b r e) (e' : Int) : EyeB t (w.setCell ⟨b, 1, none⟩ (.int .i64 e')) b r e' := by
  unfold EyeB
  rw [heap_setCell_same w b 1 _ t _ h]
  rfl
theorem EyeB.below {t : TypeId} {w w' : World} {b : Nat} {r : ByteArray} {e : Int} (h : EyeB t w b r e) (hb : Below w.heap.size w w') : EyeB t w' b r e := (hb.block b h.lt).trans h
theorem grown_set (w : World) (b j : Nat) (u : Value) : w.grownBy (w.setCell ⟨b, j, none⟩ u) (some b) := by
  refine ⟨rfl, rfl, rfl, by simp [World.setCell], fun k _ hk => heap_setCell_other w ⟨b, j, none⟩ k u (fun e => hk (by rw [e]))⟩
theorem grown_below {w w' : World} {row : Option Nat} (hb : Below w.heap.size w w') : w.grownBy w' row := ⟨hb.os, hb.tape, hb.output, hb.size, fun k hk _ => hb.block k hk⟩
theorem grown_trans {w w1 w2 : World} {row : Option Nat} (h1 : w.grownBy w1 row) (h2 : w1.grownBy w2 row) : w.grownBy w2 row := by
  obtain ⟨a1, a2, a3, a4, a5⟩ := h1
  obtain ⟨b1, b2, b3, b4, b5⟩ := h2
  exact ⟨b1.trans a1, b2.trans a2, b3.trans a3, Nat.le_trans a4 b4, fun k hk hne => (b5 k (Nat.lt_of_lt_of_le hk a4) hne).trans (a5 k hk hne)⟩
theorem grown_refl (w : World) (row : Option Nat) : w.grownBy w row := ⟨rfl, rfl, rfl, Nat.le_refl _, fun _ _ _ => rfl⟩
theorem left_take (s : ByteArray) {k n : Nat} (h : k + n ≤ s.size) : (s.extract k s.size).extract 0 n = s.extract k (k + n) := by
  apply ext_bytes
  rw [Lib.extract_data, Lib.extract_data, Lib.extract_data, List.drop_zero, Nat.sub_zero, List.take_take]
  congr 1
  omega
theorem left_drop (s : ByteArray) {k n : Nat} : (s.extract k s.size).extract n (s.extract k s.size).size = s.extract (k + n) s.size := by
  have hz : (s.extract k s.size).size = s.size - k := by simp
  rw [hz]
  apply ext_bytes
  rw [Lib.extract_data, Lib.extract_data, Lib.extract_data]
  rw [List.take_of_length_le (l := s.data.toList.drop k) (by simp), List.drop_drop]
  rw [List.take_of_length_le (by simp; omega), List.take_of_length_le (by simp)]
def EyeAt (t : TypeId) (w : World) (b : Nat) (s : ByteArray) (k : Nat) (e : Int) : Prop := EyeB t w b (s.extract k s.size) e
end Go.Creel
namespace Go.Proofs.YtaffgndickdbiaaGreatDoor
open Go.Creel Go.RowKit
abbrev tEye : TypeId := 182
set_option maxRecDepth 100000 in
theorem Take_any (b : Nat) (s : ByteArray) (k n : Nat) (e : Int) (w : World) (h : EyeAt tEye w b s k e) (hk : k + n ≤ s.size) (hs : s.size ≤ 1000) :
    Calls Tryz.prog 168 #[.pointer (some ⟨b, 0, none⟩), .int .i64 n] w fun x w' => x = .returned (.string (s.extract k (k + n))) ∧ EyeAt tEye w' b s (k + n) e ∧ w.grownBy w' (some b) := by
  have hT := Lib.hid (left_take s hk)
  have hD := Lib.hid (left_drop s (k := k) (n := n))
  have hz : (s.extract k s.size).size = s.size - k := by simp
  have H : Hid (EyeB tEye w b (s.extract k s.size) e) := Lib.hid h
  have hn : n ≤ (s.extract k s.size).size := by omega
  have hl : (s.extract k s.size).size ≤ 1000 := by omega
  clear h hz
  unfold EyeAt
  rw [← hT.out, ← hD.out]
  clear hT hD
  generalize s.extract k s.size = r at *
  have c0 := H.out.c0
  have f0 := H.out.free 0
  have HG := Lib.hid (grown_set w b 0 (.string (r.extract n r.size)))
  go_enter Tryz.func168, Tryz.ntmps168
  go_wp2
  go_ret
  exact ⟨rfl, H.out.rest _, HG.out⟩
set_option maxRecDepth 100000 in
theorem Note_any (b : Nat) (s : ByteArray) (k : Nat) (e f : Int) (w : World) (h : EyeAt tEye w b s k e) :
    Calls Tryz.prog 169 #[.pointer (some ⟨b, 0, none⟩), .int .i64 f] w fun x w' => x = .returned (.tuple #[]) ∧ EyeAt tEye w' b s k (note e f) ∧ w.grownBy w' (some b) := by
  have H : Hid (EyeB tEye w b (s.extract k s.size) e) := Lib.hid h
  unfold EyeAt
  clear h
  generalize s.extract k s.size = r at *
  have c1 := H.out.c1
  have f1 := H.out.free 1
  have HG := Lib.hid (grown_set w b 1 (.int .i64 f))
  by_cases h0 : e = 0
  · have hq : (e == 0) = true := by rw [beq_iff_eq]; exact h0
    have HN := Lib.hid (note_ok (f := f) h0)
    clear h0
    go_enter Tryz.func169, Tryz.ntmps169
    go_wp2
    go_end0
    rw [HN.out]
    exact ⟨rfl, H.out.err _, HG.out⟩
  · have hq : (e == 0) = false := by rw [beq_eq_false_iff_ne]; exact h0
    have HN := Lib.hid (note_bad (f := f) h0)
    clear h0
    go_enter Tryz.func169, Tryz.ntmps169
    go_wp2
    go_end0
    rw [HN.out]
    exact ⟨rfl, H.out, grown_refl _ _⟩
set_option maxRecDepth 100000 in
theorem EyeText_any (b : Nat) (s : ByteArray) (k n : Nat) (wh : Bool) (e : Int) (w : World) (h : EyeAt tEye w b s k e) (hk : k + n ≤ s.size) (hs : s.size ≤ 1000) :
    Calls Tryz.prog 166 #[.pointer (some ⟨b, 0, none⟩), .int .i64 n, .bool wh] w fun x w' => x = .returned (.string (fieldOf (s.extract k (k + n)) wh).1) ∧ EyeAt tEye w' b s (k + n) (note e (fieldOf (s.extract k (k + n)) wh).2) ∧ w.grownBy w' (some b) := by
  have HT := Lib.hid (fun w h => Take_any b s k n e w h hk hs)
  have HF := Lib.hid (fun w => FieldRead_any (s.extract k (k + n)) wh w (by unfold maxLen; simp; omega))
  have HN := Lib.hid (fun w f h => Note_any b s (k + n) e f w h)
  have H := Lib.hid h
  clear h
  generalize fieldOf (s.extract k (k + n)) wh = p at *
  obtain ⟨p1, p2⟩ := p
  go_enter Tryz.func166, Tryz.ntmps166
  go_wp2_with fail
  refine (HT.out _ H.out).mono ?_
  rintro x w1 ⟨rfl, h1, g1⟩
  have H1 := Lib.hid h1
  have G1 := Lib.hid g1
  clear h1 g1
  go_wp2_with fail
  refine (HF.out _).mono ?_
  rintro x w2 ⟨rfl, hb⟩
  have H2 := Lib.hid (EyeB.below H1.out hb)
  have G2 := Lib.hid (grown_trans G1.out (grown_below hb))
  clear hb
  go_wp2_with fail
  refine (HN.out _ _ H2.out).mono ?_
  rintro x w3 ⟨rfl, h1, g1⟩
  have H3 := Lib.hid h1
  have G3 := Lib.hid (grown_trans G2.out g1)
  clear h1 g1
  go_wp2
  go_ret
  exact ⟨rfl, H3.out, G3.out⟩
set_option maxRecDepth 100000 in
theorem EyeNum_any (b : Nat) (s : ByteArray) (k n : Nat) (e : Int) (w : World) (h : EyeAt tEye w b s k e) (hk : k + n ≤ s.size) (hs : s.size ≤ 1000) :
    Calls Tryz.prog 167 #[.pointer (some ⟨b, 0, none⟩), .int .i64 n] w fun x w' => x = .returned (.int .i64 (octOf (s.extract k (k + n))).1) ∧ EyeAt tEye w' b s (k + n) (note e (octOf (s.extract k (k + n))).2) ∧ w.grownBy w' (some b) := by
  have HT := Lib.hid (fun w h => Take_any b s k n e w h hk hs)
  have HF := Lib.hid (fun w => OctRead_any (s.extract k (k + n)) w (by unfold maxLen; simp; omega))
  have HN := Lib.hid (fun w f h => Note_any b s (k + n) e f w h)
  have H := Lib.hid h
  clear h
  generalize octOf (s.extract k (k + n)) = p at *
  obtain ⟨p1, p2⟩ := p
  go_enter Tryz.func167, Tryz.ntmps167
  go_wp2_with fail
  refine (HT.out _ H.out).mono ?_
  rintro x w1 ⟨rfl, h1, g1⟩
  have H1 := Lib.hid h1
  have G1 := Lib.hid g1
  clear h1 g1
  go_wp2_with fail
  refine (HF.out _).mono ?_
  rintro x w2 ⟨rfl, rfl⟩
  go_wp2_with fail
  refine (HN.out _ _ H1.out).mono ?_
  rintro x w3 ⟨rfl, h1, g1⟩
  have H3 := Lib.hid h1
  have G3 := Lib.hid (grown_trans G1.out g1)
  clear h1 g1
  go_wp2
  go_ret
  exact ⟨rfl, H3.out, G3.out⟩
set_option maxRecDepth 100000 in
theorem EyeJust_any (b : Nat) (s t : ByteArray) (k n : Nat) (e : Int) (w : World) (h : EyeAt tEye w b s k e) (hn : t.size = n) (hk : k + n ≤ s.size) (hs : s.size ≤ 1000) :
    Calls Tryz.prog 170 #[.pointer (some ⟨b, 0, none⟩), .string t] w fun x w' => x = .returned (.tuple #[]) ∧ EyeAt tEye w' b s (k + n) (note e (justE s k (k + n) t)) ∧ w.grownBy w' (some b) := by
  have HT := Lib.hid (fun w h => Take_any b s k n e w h hk hs)
  have HN := Lib.hid (fun w f h => Note_any b s (k + n) e f w h)
  have H := Lib.hid h
  have hn' := hn
  clear h
  by_cases he : s.extract k (k + n) = t
  · have hq := seq_t he
    have HJ := Lib.hid (show note e (justE s k (k + n) t) = e by
      unfold justE note; rw [if_pos he]; split <;> omega)
    clear he
    go_enter Tryz.func170, Tryz.ntmps170
    go_wp2_with fail
    refine (HT.out _ H.out).mono ?_
    rintro x w1 ⟨rfl, h1, g1⟩
    have H1 := Lib.hid h1
    have G1 := Lib.hid g1
    clear h1 g1
    go_wp2
    go_end0
    rw [HJ.out]
    exact ⟨rfl, H1.out, G1.out⟩
  · have hq := seq_f he
    have HJ := Lib.hid (show justE s k (k + n) t = 3 by unfold justE; rw [if_neg he])
    clear he
    go_enter Tryz.func170, Tryz.ntmps170
    go_wp2_with fail
    refine (HT.out _ H.out).mono ?_
    rintro x w1 ⟨rfl, h1, g1⟩
    have H1 := Lib.hid h1
    have G1 := Lib.hid g1
    clear h1 g1
    go_wp2_with fail
    refine (HN.out _ _ H1.out).mono ?_
    rintro x w3 ⟨rfl, h1, g1⟩
    have H3 := Lib.hid h1
    have G3 := Lib.hid (grown_trans G1.out g1)
    clear h1 g1
    go_wp2
    go_end0
    rw [HJ.out]
    exact ⟨rfl, H3.out, G3.out⟩
end Go.Proofs.YtaffgndickdbiaaGreatDoor
