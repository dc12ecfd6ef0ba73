/-
  pad.Blocks, pad.Fill and their references.
-/
import Derived.Test.YtgpcdoplahmcoaaSame
namespace Go.Creel
set_option linter.unusedVariables false
open Go.RowKit
def padBlocks (n : Int) : Int × Int := if 0 ≤ n ∧ n ≤ 8589934591 then ((n + 511) / 512, 0) else (0, 4)
def padLack (n : Nat) : Nat := (512 - n % 512) % 512
def padFill (l : List UInt8) : List UInt8 := l ++ List.replicate (padLack l.length) 0
/-- A slice of bytes is handed back, new, and nothing that was there is written. -/
def RetBs (t : TypeId) (w : World) (l : List UInt8) (e : Ending) (w' : World) : Prop := ∃ v, e = .returned v ∧ OwnBs t w' w.heap.size v l ∧ Below w.heap.size w w'
/-- the length in a slot, for a measure -/
def vlen : Value → Nat | .slice _ n _ => n | _ => 0
theorem padLack_zero {n m : Nat} (h : (n + m) % 512 = 0) (hm : m ≤ padLack n) : m = padLack n := by unfold padLack at *; omega
theorem padLack_lt {n m : Nat} (h : (n + m) % 512 ≠ 0) (hm : m ≤ padLack n) : m < padLack n := by unfold padLack at *; omega
theorem padLack_lt512 (n : Nat) : padLack n < 512 := by unfold padLack; omega
theorem rep_snoc (l : List UInt8) (m : Nat) : l ++ List.replicate m 0 ++ [0] = l ++ List.replicate (m + 1) 0 := by rw [List.append_assoc, List.replicate_succ']
/-- a source of one new cell -/
theorem src_one {P : Program} (w : World) (tx e' e : TypeId) (hk : P.underlying tx = some (.slice e')) (c : Value) (hc : c.oneCell' = true) : Src P 1 tx (.slice (some ⟨w.heap.size, 0, none⟩) 1 1) 1 [c] (w.alloc (.cells #[c] e)) := by
  refine Src.ofSlice _ hk ⟨w.heap.size, 0, none⟩ 1 1 [c] rfl (fun j u hu => ?_) (fun u hu => by simp at hu; rw [hu]; exact hc)
  match j, hu with
  | 0, hu =>
    simp at hu
    subst hu
    simp [Addr.add]
end Go.Creel
namespace Go.Proofs.Ytgpcdoplahmcoaa
set_option linter.unusedVariables false
open Go.Creel Go.RowKit
set_option maxRecDepth 100000 in
theorem Blocks_any (n : Int) (w : World) (hn : i64 n) :
    Calls Try.prog 19 #[.int .i64 n] w fun e w' => e = .returned (.tuple #[.int .i64 (padBlocks n).1, .int .i64 (padBlocks n).2]) ∧ w = w' := by
  unfold i64 at hn
  by_cases h : 0 ≤ n ∧ n ≤ 8589934591
  · have HF := Lib.hid (show padBlocks n = ((n + 511) / 512, 0) by unfold padBlocks; rw [if_pos h])
    obtain ⟨h1, h2⟩ := h
    go_enter Try.func19, Try.ntmps19
    go_wp2
    go_ret2
    exact ⟨ret_ii (by rw [HF.out]; congr 2; omega), rfl⟩
  · have HF := Lib.hid (show padBlocks n = (0, 4) by unfold padBlocks; rw [if_neg h])
    have HN := Lib.hid h
    clear h
    go_enter Try.func19, Try.ntmps19
    go_wp2
    all_goals first
      | (exfalso; have := HN.out; omega)
      | (go_ret2; exact ⟨ret_ii HF.out, rfl⟩)
set_option maxRecDepth 100000 in
theorem PadBlocks_any (n : Int) (w : World) (hn : i64 n) :
    Calls Try.prog 21 #[.int .i64 n] w fun e w' => e = .returned (.tuple #[.int .i64 (padBlocks n).1, .int .i64 (padBlocks n).2]) ∧ w = w' := by
  unfold i64 at hn
  by_cases h : 0 ≤ n ∧ n ≤ 8589934591
  · have HF := Lib.hid (show padBlocks n = ((n + 511) / 512, 0) by unfold padBlocks; rw [if_pos h])
    obtain ⟨h1, h2⟩ := h
    go_enter Try.func21, Try.ntmps21
    go_wp2
    all_goals (go_ret2; exact ⟨ret_ii (by rw [HF.out]; congr 1; omega), rfl⟩)
  · have HF := Lib.hid (show padBlocks n = (0, 4) by unfold padBlocks; rw [if_neg h])
    have HN := Lib.hid h
    clear h
    go_enter Try.func21, Try.ntmps21
    go_wp2
    all_goals first
      | (exfalso; have := HN.out; omega)
      | (go_ret2; exact ⟨ret_ii HF.out, rfl⟩)
theorem info_byte2 : (Try.prog.info? 5).map (fun i => (i.zero, i.size, i.bytes)) = some (some (.int .u8 0), 1, 1) := by kernel_rfl
set_option maxRecDepth 100000 in
set_option maxHeartbeats 400000 in
theorem Fill_any {N : Nat} (v : Value) (l : List UInt8) (w : World) (h : SliceC N 1 ByteC w [v] l) (hl : l.length ≤ 140737488354000) :
    Calls Try.prog 20 #[v] w (RetBs 5 w (padFill l)) := by
  obtain ⟨i0, hi, hz0, hz1, hz2⟩ := info_parts info_byte2
  have H := Lib.hid h
  have hlk := padLack_lt512 l.length
  have HI := Lib.hid (And.intro hi (And.intro hz0 (And.intro hz1 hz2)))
  obtain ⟨a, cap, hv⟩ : ∃ a cap, v = .slice a l.length cap := by
    obtain ⟨a, cap, hv, _⟩ := h
    exact ⟨a, cap, by simpa using hv⟩
  subst hv
  have HL := Lib.hid (show (-((l.length : Int) % 512)) % 512 = (padLack l.length : Int) by unfold padLack; omega)
  clear h hi hz0 hz1 hz2
  go_enter Try.func20, Try.ntmps20
  go_wp2_with (first
    | (at_builtin; refine wpList_app _ rfl (.const (.slice none 0 0)) (.tmp 9) 25 25 rfl _ _ rfl rfl (fun ty => app_bytes (l := []) (B := w.heap.size) _ _ _ _ _ i0 Try.underlying25 Try.underlying25 HI.out.1 HI.out.2.1 HI.out.2.2.1 HI.out.2.2.2 (OwnBs.nil _ _ _) H.out (by simp; omega) (Nat.le_refl _) ty) ?_; intro v1 w1 ho hg _; have HO := Lib.hid (OwnBs.app (l := []) ho); have HB := Lib.hid (below_app (Below.refl w.heap.size w) hg (World.ownsRow_nil w w.heap.size 5 1) (Nat.le_refl _)); clear ho hg)
    | (at_builtin; refine wpList_app _ rfl (.tmp 10) (.tmp 11) 25 3 rfl _ (.int .i64 (padLack l.length)) rfl (congrArg (Value.int .i64) HL.out) (fun ty => app_bytes_zeros (B := w.heap.size) _ _ _ _ i0 Try.underlying25 Try.underlying3 HI.out.1 HI.out.2.1 HI.out.2.2.1 HI.out.2.2.2 (padLack l.length) HO.out (by simp; omega) HB.out.size ty) ?_; intro v2 w2 ho hg _; have HO2 := Lib.hid (OwnBs.appz ho); have HB2 := Lib.hid (below_app HB.out hg HO.out HB.out.size); clear ho hg))
  go_ret
  refine ⟨_, rfl, ?_, HB2.out⟩
  have e := HO2.out
  simp only [List.nil_append] at e
  exact e
set_option maxRecDepth 100000 in
set_option maxHeartbeats 800000 in
theorem PadFill_any {N : Nat} (v : Value) (l : List UInt8) (w : World) (h : SliceC N 1 ByteC w [v] l) (hl : l.length ≤ 140737488354000) :
    Calls Try.prog 22 #[v] w (RetBs 5 w (padFill l)) := by
  obtain ⟨i0, hi, hz0, hz1, hz2⟩ := info_parts info_byte2
  have HI := Lib.hid (And.intro hi (And.intro hz0 (And.intro hz1 hz2)))
  have hlk := padLack_lt512 l.length
  have h0 : OwnBs 5 (w.alloc (.cells #[] 5)) w.heap.size (.slice (some ⟨w.heap.size, 0, none⟩) 0 0) [] := World.ownsRow_made w #[] 0 (Nat.le_refl _) (by simp) rfl
  have H0 := Lib.hid h0
  have hb0 := (Below.refl w.heap.size w).alloc (Nat.le_refl _) (.cells #[] 5)
  have H := Lib.hid (h.below (w' := w.alloc (.cells #[] 5)) (fun _ _ h => h) hb0)
  have HB0 := Lib.hid hb0
  have hsz0 : w.heap.size ≤ (w.alloc (.cells #[] 5)).heap.size := hb0.size
  have HS0 := Lib.hid hsz0
  clear h h0 hb0 hsz0 hi hz0 hz1 hz2
  go_enter Try.func22, Try.ntmps22
  go_wp2_with (at_builtin; refine wpList_app _ rfl (.tmp 4) (.tmp 5) 25 25 rfl _ _ rfl rfl (fun ty => app_bytes (l := []) (B := w.heap.size) _ _ _ _ _ i0 Try.underlying25 Try.underlying25 HI.out.1 HI.out.2.1 HI.out.2.2.1 HI.out.2.2.2 H0.out H.out (by simp; omega) HS0.out ty) ?_; intro v1 w1 ho hg _; have HO := Lib.hid (OwnBs.app (l := []) ho); have HB := Lib.hid (below_app HB0.out hg H0.out HS0.out); clear ho hg)
  go_loopw [3] (fun v wr => ∃ m : Nat, m ≤ padLack l.length ∧ OwnBs 5 wr w.heap.size v (l ++ List.replicate m 0) ∧ Below w.heap.size w wr) (fun v _ => 512 - (vlen v + 511) % 512)
  case atStart => exact ⟨0, by omega, by have := HO.out; simpa using this, HB.out⟩
  case round =>
    obtain ⟨m, hm, ho, hb⟩ := hrel
    have HO := Lib.hid ho
    have HBR := Lib.hid hb
    have hlen : (l ++ List.replicate m (0 : UInt8)).length = l.length + m := by simp
    obtain ⟨a, cap, hv⟩ : ∃ a cap, u3 = .slice a (l.length + m) cap := by
      rcases ho.form with ⟨e1, e2⟩ | ⟨g, cap, e1, _⟩
      · have := congrArg List.length e2
        rw [hlen] at this
        simp at this
        exact ⟨none, 0, by rw [e1]; simp [this]⟩
      · exact ⟨_, _, by rw [e1, hlen]⟩
    subst hv
    have HL := Lib.hid hlen
    have hbsz := hb.size
    clear ho hb hlen
    by_cases he : (l.length + m) % 512 = 0
    · have HM := Lib.hid (padLack_zero he hm)
      have hq : ((((l.length + m : Nat) : Int) % 512) != 0) = false := by rw [bne_eq_false_iff_eq]; omega
      clear he
      go_wp2
      go_ret
      refine ⟨_, rfl, ?_, HBR.out⟩
      have e : padFill l = l ++ List.replicate m 0 := by rw [HM.out]; rfl
      rw [e]
      exact HO.out
    · have HM := Lib.hid (padLack_lt he hm)
      have hq : ((((l.length + m : Nat) : Int) % 512) != 0) = true := by rw [bne_iff_ne]; omega
      have HE := Lib.hid he
      have hb1 := (Below.refl wr.heap.size wr).alloc (Nat.le_refl _) (.cells #[.int .u8 0] 5)
      have HO1 := Lib.hid (World.ownsRow.alloc HO.out (.cells #[.int .u8 0] 5))
      have HSZ := Lib.hid (show w.heap.size ≤ (wr.alloc (.cells #[.int .u8 0] 5)).heap.size from Nat.le_trans hbsz hb1.size)
      have HB1 := Lib.hid (HBR.out.alloc hbsz (.cells #[.int .u8 0] 5))
      clear he hb1
      go_wp2_with (at_builtin; refine wpList_app _ rfl (.tmp 11) (.tmp 12) 25 25 rfl _ _ rfl rfl (n := (l ++ List.replicate m (0 : UInt8)).length) (fun ty => app_src _ _ _ _ w.heap.size 5 i0 (.int .u8 0) 1 1 Try.underlying25 HI.out.1 HI.out.2.1 HI.out.2.2.1 HI.out.2.2.2 rfl (by decide) _ _ _ _ _ _ HO1.out (src_one wr _ _ _ Try.underlying25 _ rfl) (by rw [HL.out]; unfold maxLen; omega) (by rw [HL.out]; omega) HSZ.out) ?_; intro v1 w1 ho hg _)
      have HO2 := Lib.hid (OwnBs.app (m := [0]) ho)
      have HB2 := Lib.hid (below_app HB1.out hg HO1.out HSZ.out)
      clear ho hg
      go_wp2
      go_roundw
      case rel => exact ⟨m + 1, by have := HM.out; omega, by rw [← rep_snoc]; exact HO2.out, HB2.out⟩
      case measure =>
        have h1 : vlen v1 = l.length + m + 1 := by
          rcases HO2.out.form with ⟨_, e2⟩ | ⟨g, c, e1, _⟩
          · simp at e2
          · rw [e1]; simp [vlen]; omega
        have h2 := HM.out
        have h3 := HE.out
        show 512 - (vlen v1 + 511) % 512 < 512 - (l.length + m + 511) % 512
        rw [h1]; omega
end Go.Proofs.Ytgpcdoplahmcoaa
