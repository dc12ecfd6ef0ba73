/-
  Texts: Cut, Nodes.
-/
import Derived.Test.YtaffgndickdbiaaGreatDoorR01
set_option linter.unusedVariables false
set_option linter.unusedSimpArgs false
set_option linter.unusedSectionVars false
namespace Go.Creel
theorem get_eq_byt (s : ByteArray) (k : Nat) (h : k < s.size) : (s.get! k).toNat = byt s k := by
  have := get_at s k h
  rw [Nat.add_zero] at this
  rw [this, byt_get s k h]
theorem decode_cont {s : ByteArray} {pos j : Nat} (h1 : pos < j) (h2 : j < pos + (Utf8.decode s pos).2) : j < s.size ∧ 128 ≤ byt s j := by
  have key : ∀ k, (decide (pos + k < s.size) && (s.get! (pos + k)).toNat / 64 == 2) = true → pos + k < s.size ∧ 128 ≤ byt s (pos + k) := by
    intro k hk
    simp only [Bool.and_eq_true, decide_eq_true_eq, beq_iff_eq] at hk
    refine ⟨hk.1, ?_⟩
    rw [← get_eq_byt s _ hk.1]
    omega
  unfold Utf8.decode at h2
  simp only at h2
  split at h2
  · simp at h2; omega
  · split at h2
    · rename_i hc
      rw [Bool.and_eq_true] at hc
      split at h2
      · simp at h2
        obtain rfl : j = pos + 1 := by omega
        exact key 1 hc.2
      · simp at h2; omega
    · split at h2
      · rename_i hc
        simp only [Bool.and_eq_true] at hc
        split at h2
        · simp at h2
          rcases (show j = pos + 1 ∨ j = pos + 2 by omega) with rfl | rfl
          · exact key 1 (by simpa using hc.1.2)
          · exact key 2 (by simpa using hc.2)
        · simp at h2; omega
      · split at h2
        · rename_i hc
          simp only [Bool.and_eq_true] at hc
          split at h2
          · simp at h2
            rcases (show j = pos + 1 ∨ j = pos + 2 ∨ j = pos + 3 by omega) with rfl | rfl | rfl
            · exact key 1 (by simpa using hc.1.1.2)
            · exact key 2 (by simpa using hc.1.2)
            · exact key 3 (by simpa using hc.2)
          · simp at h2; omega
        · simp at h2; omega
theorem decode_pos (s : ByteArray) (pos : Nat) (h : pos < s.size) : 1 ≤ (Utf8.decode s pos).2 := by
  by_cases ha : (s[pos]'h).toNat < 128
  · rw [decode_ascii s pos h ha]
    exact Nat.le_refl _
  · exact (decode_high s pos h (by omega)).2
theorem decode_le_size (s : ByteArray) (pos : Nat) (h : pos < s.size) : pos + (Utf8.decode s pos).2 ≤ s.size := by
  have hp := decode_pos s pos h
  by_cases hq : (Utf8.decode s pos).2 = 1
  · omega
  · have := (decode_cont (s := s) (pos := pos) (j := pos + (Utf8.decode s pos).2 - 1) (by omega) (by omega)).1
    omega
def cutGood (s : ByteArray) (i : Nat) : Bool := decide (byt s i = 47 ∧ 0 < i ∧ i ≤ 155 ∧ i + 1 < s.size ∧ s.size ≤ i + 101)
def cutAt (s : ByteArray) : Nat → Option Nat
  | 0 => none
  | k + 1 => match cutAt s k with
    | some i => some i
    | none => if cutGood s k then some k else none
theorem cutAt_none_succ {s : ByteArray} {k : Nat} (h : cutAt s k = none) (hg : cutGood s k = false) : cutAt s (k + 1) = none := by simp [cutAt, h, hg]
theorem cutAt_none_to {s : ByteArray} {k : Nat} (h : cutAt s k = none) : ∀ m, k ≤ m → (∀ j, k ≤ j → j < m → cutGood s j = false) → cutAt s m = none := by
  intro m hm hg
  induction m with
  | zero => rfl
  | succ m ih =>
    by_cases e : k = m + 1
    · rw [← e]; exact h
    · exact cutAt_none_succ (ih (by omega) (fun j h1 h2 => hg j h1 (by omega))) (hg m (by omega) (by omega))
theorem cutAt_some {s : ByteArray} {k : Nat} (h : cutAt s k = none) (hg : cutGood s k = true) : ∀ m, k < m → cutAt s m = some k := by
  intro m hm
  induction m with
  | zero => omega
  | succ m ih =>
    by_cases e : k = m
    · subst e; simp [cutAt, h, hg]
    · simp [cutAt, ih (by omega)]
def cutRest (s : ByteArray) : ByteArray × ByteArray × Int :=
  if s.size ≤ 100 then (ByteArray.empty, s, 0)
  else match cutAt s s.size with
    | some i => (s.extract 0 i, s.extract (i + 1) s.size, 0)
    | none => (ByteArray.empty, ByteArray.empty, 1)
def cutTwo (s : ByteArray) : ByteArray × ByteArray × Int := if s.size = 0 ∨ hasB s 0 = true then (ByteArray.empty, ByteArray.empty, 3) else cutRest s
theorem cutGood_no {s : ByteArray} {i : Nat} (h : cutGood s i = false) : byt s i ≠ 47 ∨ i = 0 ∨ 155 < i ∨ s.size ≤ i + 1 ∨ i + 101 < s.size := by
  unfold cutGood at h
  rw [decide_eq_false_iff_not] at h
  omega
theorem cutGood_yes {s : ByteArray} {i : Nat} (h : cutGood s i = true) : byt s i = 47 ∧ 0 < i ∧ i ≤ 155 ∧ i + 1 < s.size ∧ s.size ≤ i + 101 := by
  unfold cutGood at h
  simpa using h
theorem cutGood_f {s : ByteArray} {i : Nat} (h : byt s i ≠ 47 ∨ i = 0 ∨ 155 < i ∨ s.size ≤ i + 1 ∨ i + 101 < s.size) : cutGood s i = false := by
  unfold cutGood
  rw [decide_eq_false_iff_not]; omega
end Go.Creel
namespace Go.Proofs.YtaffgndickdbiaaGreatDoor
open Go.Creel Go.RowKit
set_option maxRecDepth 100000 in
set_option maxHeartbeats 1000000 in
theorem Two_any (s : ByteArray) (w : World) (hs : s.size ≤ maxLen) :
    Calls Tryz.prog 90 #[.string s] w fun e w' => e = .returned (.tuple #[.string (cutTwo s).1, .string (cutTwo s).2.1, .int .i64 (cutTwo s).2.2]) ∧ Below w.heap.size w w' := by
  unfold maxLen at hs
  by_cases h0 : s.size = 0
  · have HF := Lib.hid (show cutTwo s = (ByteArray.empty, ByteArray.empty, 3) by unfold cutTwo; rw [if_pos (.inl h0)])
    have he := empty_t h0
    clear h0
    go_enter Tryz.func90, Tryz.ntmps90
    go_wp2
    go_ret3
    exact ⟨ret_ssi HF.out, Below.refl _ _⟩
  · have he := empty_f h0
    have hix := idx_has s 0
    cases hh : hasB s 0 with
    | true =>
      have HF := Lib.hid (show cutTwo s = (ByteArray.empty, ByteArray.empty, 3) by unfold cutTwo; rw [if_pos (.inr hh)])
      rw [hh] at hix
      clear h0 hh
      go_enter Tryz.func90, Tryz.ntmps90
      go_wp2_with (go_at_call 84; refine (IndexByte_any _ _ _).mono ?_; rintro e w' ⟨rfl, rfl⟩)
      go_ret3
      exact ⟨ret_ssi HF.out, Below.refl _ _⟩
    | false =>
      rw [hh] at hix
      have HC := Lib.hid (show cutTwo s = cutRest s by
        have hn : ¬ (s.size = 0 ∨ hasB s 0 = true) := by rw [hh]; simp [h0]
        unfold cutTwo
        rw [if_neg hn])
      have hpos : 0 < s.size := by omega
      clear h0 hh
      by_cases h1 : s.size ≤ 100
      · have HF := Lib.hid (show cutTwo s = (ByteArray.empty, s, 0) by rw [HC.out, cutRest, if_pos h1])
        go_enter Tryz.func90, Tryz.ntmps90
        go_wp2_with (go_at_call 84; refine (IndexByte_any _ _ _).mono ?_; rintro e w' ⟨rfl, rfl⟩)
        go_ret3
        exact ⟨ret_ssi HF.out, Below.refl _ _⟩
      · have HC2 := Lib.hid h1
        go_enter Tryz.func90, Tryz.ntmps90
        go_wp2_with (go_at_call 84; refine (IndexByte_any _ _ _).mono ?_; rintro e w' ⟨rfl, rfl⟩)
        go_loopw [5] (fun _ wr => ∃ pos : Nat, wr = w.iter s pos ∧ pos ≤ s.size ∧ Hid (cutAt s pos = none)) (fun _ wr => s.size - wr.iterPos w.heap.size)
        case atStart => exact ⟨0, rfl, by omega, rfl⟩
        case round =>
          obtain ⟨pos, rfl, hpz, HP⟩ := hrel
          by_cases hp : pos < s.size
          · have hnx : ∀ ty, (Instr.next (.pointer (some ⟨w.heap.size, 0, none⟩)) true ty).run Tryz.prog (w.iter s pos) = _ := fun ty => run_next_any w s pos ty hp
            have hwd := decode_pos s pos hp
            have hle := decode_le_size s pos hp
            have HB := Lib.hid (byt_get s pos hp)
            have hb' : s[pos].toNat < 256 := UInt8.toNat_lt _
            cases hg : cutGood s pos with
            | true =>
              obtain ⟨g1, g2, g3, g4, g5⟩ := cutGood_yes hg
              have HF := Lib.hid (show cutTwo s = (s.extract 0 pos, s.extract (pos + 1) s.size, 0) by rw [HC.out, cutRest, if_neg HC2.out, cutAt_some HP.out hg s.size hp])
              have hq : (((s[pos].toNat : Nat) : Int) == 47) = true := by rw [HB.out, g1]; rfl
              clear hg g1
              go_wp2
              go_quiet (fail)
              go_wp2
              go_ret3
              exact ⟨ret_ssi HF.out, ((Below.refl _ _).alloc (Nat.le_refl _) _).trans (below_draws _ _ _)⟩
            | false =>
              have HN := Lib.hid (show cutAt s (pos + (Utf8.decode s pos).2) = none by
                refine cutAt_none_to HP.out _ (by omega) (fun j h1 h2 => ?_)
                by_cases e : j = pos
                · rw [e]; exact hg
                · have := decode_cont (show pos < j by omega) h2
                  exact cutGood_f (.inl (by omega)))
              have hno := cutGood_no hg
              clear hg
              by_cases hq0 : byt s pos = 47
              · have hq : (((s[pos].toNat : Nat) : Int) == 47) = true := by rw [HB.out, hq0]; rfl
                have HNO := Lib.hid (hno.resolve_left (fun h => h hq0))
                clear hno hq0
                go_wp2
                all_goals first
                  | (exfalso; have := HNO.out; omega)
                  | skip
                all_goals go_roundw
                all_goals first
                  | (case rel => exact ⟨_, rfl, hle, HN⟩)
                  | (case measure => simp; omega)
              · have hq : (((s[pos].toNat : Nat) : Int) == 47) = false := by rw [HB.out, beq_eq_false_iff_ne]; omega
                clear hno hq0
                go_wp2
                go_roundw
                case rel => exact ⟨_, rfl, hle, HN⟩
                case measure => simp; omega
          · have hnx : ∀ ty, (Instr.next (.pointer (some ⟨w.heap.size, 0, none⟩)) true ty).run Tryz.prog (w.iter s pos) = _ := fun ty => run_next_end w s pos ty hp
            obtain rfl : pos = s.size := by omega
            have HF := Lib.hid (show cutTwo s = (ByteArray.empty, ByteArray.empty, 1) by rw [HC.out, cutRest, if_neg HC2.out, HP.out])
            go_wp2
            go_ret3
            exact ⟨ret_ssi HF.out, (Below.refl _ _).alloc (Nat.le_refl _) _⟩
set_option maxRecDepth 100000 in
set_option maxHeartbeats 1000000 in
theorem CutTwo_any (s : ByteArray) (w : World) (hs : s.size ≤ maxLen) :
    Calls Tryz.prog 100 #[.string s] w fun e w' => e = .returned (.tuple #[.string (cutTwo s).1, .string (cutTwo s).2.1, .int .i64 (cutTwo s).2.2]) ∧ Below w.heap.size w w' := by
  have hs' := hs
  unfold maxLen at hs
  by_cases h0 : s.size = 0
  · have HF := Lib.hid (show cutTwo s = (ByteArray.empty, ByteArray.empty, 3) by unfold cutTwo; rw [if_pos (.inl h0)])
    have he := empty_t h0
    clear h0
    go_enter Tryz.func100, Tryz.ntmps100
    go_wp2
    go_ret3
    exact ⟨ret_ssi HF.out, Below.refl _ _⟩
  · have he := empty_f h0
    cases hh : hasB s 0 with
    | true =>
      have HF := Lib.hid (show cutTwo s = (ByteArray.empty, ByteArray.empty, 3) by unfold cutTwo; rw [if_pos (.inr hh)])
      clear h0
      go_enter Tryz.func100, Tryz.ntmps100
      go_wp2_with (go_at_call 105; refine (has_any _ 0 0 rfl _ hs').mono ?_; rintro e w' ⟨rfl, rfl⟩)
      go_ret3
      exact ⟨ret_ssi HF.out, Below.refl _ _⟩
    | false =>
      have HC := Lib.hid (show cutTwo s = cutRest s by
        have hn : ¬ (s.size = 0 ∨ hasB s 0 = true) := by rw [hh]; simp [h0]
        unfold cutTwo
        rw [if_neg hn])
      have hpos : 0 < s.size := by omega
      clear h0
      by_cases h1 : s.size ≤ 100
      · have HF := Lib.hid (show cutTwo s = (ByteArray.empty, s, 0) by rw [HC.out, cutRest, if_pos h1])
        go_enter Tryz.func100, Tryz.ntmps100
        go_wp2_with (go_at_call 105; refine (has_any _ 0 0 rfl _ hs').mono ?_; rintro e w' ⟨rfl, rfl⟩)
        go_ret3
        exact ⟨ret_ssi HF.out, Below.refl _ _⟩
      · have HC2 := Lib.hid h1
        go_enter Tryz.func100, Tryz.ntmps100
        go_wp2_with (go_at_call 105; refine (has_any _ 0 0 rfl _ hs').mono ?_; rintro e w' ⟨rfl, rfl⟩)
        go_loop [5] (fun i => ∃ k : Nat, 1 ≤ k ∧ k ≤ s.size ∧ i = .int .i64 k ∧ Hid (cutAt s k = none)) (fun i => s.size - (intOf i).toNat)
        case atStart => exact ⟨1, by omega, by omega, rfl, cutAt_none_to (k := 0) rfl 1 (by omega) (fun j _ h2 => cutGood_f (by omega))⟩
        case round =>
          obtain ⟨k, hk1, hk, rfl, HP⟩ := hrel
          by_cases hp : k + 1 < s.size ∧ k ≤ 155
          · obtain ⟨hp1, hp2⟩ := hp
            have hks : k < s.size := by omega
            have HB := Lib.hid (byt_get s k hks)
            have hb' : s[k].toNat < 256 := UInt8.toNat_lt _
            cases hg : cutGood s k with
            | true =>
              obtain ⟨g1, g2, g3, g4, g5⟩ := cutGood_yes hg
              have HF := Lib.hid (show cutTwo s = (s.extract 0 k, s.extract (k + 1) s.size, 0) by rw [HC.out, cutRest, if_neg HC2.out, cutAt_some HP.out hg s.size hks])
              have hq : (((s[k].toNat : Nat) : Int) == 47) = true := by rw [HB.out, g1]; rfl
              clear hg g1
              go_wp2
              go_quiet (fail)
              go_wp2
              go_ret3
              exact ⟨ret_ssi HF.out, below_draws _ _ _⟩
            | false =>
              have HN := Lib.hid (cutAt_none_succ HP.out hg)
              have hno := cutGood_no hg
              clear hg
              by_cases hq0 : byt s k = 47
              · have hq : (((s[k].toNat : Nat) : Int) == 47) = true := by rw [HB.out, hq0]; rfl
                have hno' : k + 101 < s.size := by omega
                clear hno hq0
                go_wp2
                go_round
                case rel => exact ⟨k + 1, by omega, by omega, by go_num, HN⟩
                case measure => simp [intOf]; omega
              · have hq : (((s[k].toNat : Nat) : Int) == 47) = false := by rw [HB.out, beq_eq_false_iff_ne]; omega
                clear hno hq0
                go_wp2
                go_round
                case rel => exact ⟨k + 1, by omega, by omega, by go_num, HN⟩
                case measure => simp [intOf]; omega
          · have HF := Lib.hid (show cutTwo s = (ByteArray.empty, ByteArray.empty, 1) by
              rw [HC.out, cutRest, if_neg HC2.out, cutAt_none_to HP.out s.size hk (fun j h1 h2 => cutGood_f (by omega))])
            by_cases hp1 : k + 1 < s.size
            · have hp2 : 155 < k := by omega
              clear hp
              go_wp2
              go_ret3
              exact ⟨ret_ssi HF.out, Below.refl _ _⟩
            · clear hp
              go_wp2
              go_ret3
              exact ⟨ret_ssi HF.out, Below.refl _ _⟩
end Go.Proofs.YtaffgndickdbiaaGreatDoor
namespace Go.Creel
structure Ent where
  path : ByteArray
  kind : Int
  target : ByteArray
  mt : Meta
  da : Option Addr
  dcap : Nat
  data : List UInt8
def Ent.cells (e : Ent) : List Value := [.string e.path, .int .i64 e.kind, .string e.target, .int .i64 e.mt.mode, .int .i64 e.mt.uid, .int .i64 e.mt.gid, .string e.mt.user, .string e.mt.group, .int .i64 e.mt.second, .int .i64 e.mt.nano, .slice e.da e.data.length e.dcap]
structure Ent.Ok (N : Nat) (w : World) (e : Ent) : Prop where
  path : e.path.size ≤ N
  kind : i64 e.kind
  target : e.target.size ≤ N
  mt : e.mt.Ok N
  data : SliceC N 1 ByteC w [.slice e.da e.data.length e.dcap] e.data
def EntC (N : Nat) (w : World) (cs : List Value) (e : Ent) : Prop := cs = e.cells ∧ e.Ok N w
structure Nod where
  path : ByteArray
  kind : Int
  same : Int
  target : ByteArray
  mt : Meta
  da : Option Addr
  dcap : Nat
  data : List UInt8
def Nod.cells (e : Nod) : List Value := [.string e.path, .int .i64 e.kind, .int .i64 e.same, .string e.target, .int .i64 e.mt.mode, .int .i64 e.mt.uid, .int .i64 e.mt.gid, .string e.mt.user, .string e.mt.group, .int .i64 e.mt.second, .int .i64 e.mt.nano, .slice e.da e.data.length e.dcap]
structure Nod.Ok (N : Nat) (w : World) (e : Nod) : Prop where
  path : e.path.size ≤ N
  kind : i64 e.kind
  same : i64 e.same
  target : e.target.size ≤ N
  mt : e.mt.Ok N
  data : SliceC N 1 ByteC w [.slice e.da e.data.length e.dcap] e.data
def NodC (N : Nat) (w : World) (cs : List Value) (e : Nod) : Prop := cs = e.cells ∧ e.Ok N w
end Go.Creel
