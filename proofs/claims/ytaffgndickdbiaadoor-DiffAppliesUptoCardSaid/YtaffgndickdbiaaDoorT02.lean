/-
  Texts: MetaCheck, Append, Shelf.
-/
import Derived.Test.YtaffgndickdbiaaDoorT01
import Derived.Deep.AppendSrc
import Derived.Lib.AppendZeros
import Derived.Laws.OwnMore
import Derived.Shelf.Strings.Builder1
import Derived.Shelf.Strings.Builder2
import Derived.Shelf.Strings.Trim
import Derived.Shelf.Small.Utf8
import Derived.Shelf.Small.Strs
import Derived.Shelf.Strings.BuilderF
import Derived.Shelf.Strings.BuilderK
import Derived.Shelf.Strings.Builder2Cap
import Derived.Shelf.Strconv.Itoa0
import Derived.Shelf.Strconv.Itoa1
import Derived.Shelf.LaysM
import Derived.Shelf.Strconv.Itoa2
import Derived.Shelf.Strconv.Itoa3
import Derived.Shelf.Strings.Search1
import Derived.Shelf.Strings.Search2
import Derived.Shelf.Strings.Search3
import Derived.Shelf.Strings.Count
import Derived.Shelf.Strings.Shaped
import Derived.Shelf.Strings.LastIndex
import Derived.Shelf.Strings.Prefix
import Derived.Shelf.Strings.Split
import Derived.Shelf.Strings.SplitShaped
import Derived.Shelf.Strings.Runes
import Derived.Shelf.Strings.AsciiSet
import Derived.Shelf.Bits.Mul64
import Derived.Shelf.Strings.Repeat
import Derived.Shelf.Unicode.DecodeSlow
import Derived.Shelf.Strings.BuilderCap
import Derived.Shelf.Slices.Equal
import Derived.Shelf.Slices.Empties2
import Derived.Ground.PaProg
import Derived.Shelf.Path.Small
import Derived.Test.YtaffgndickdbiaaDoorProg
set_option linter.unusedVariables false
set_option linter.unusedSimpArgs false
set_option linter.unusedSectionVars false
namespace Go.Creel
def timeFault (s n : Int) : Int := if s < -1099511627776 ∨ 1099511627776 < s ∨ n < 0 ∨ 999999999 < n then 4 else 0
def metaFault (m : Meta) : Int :=
  if m.mode < 0 ∨ 4095 < m.mode ∨ m.uid < 0 ∨ 1125899906842624 < m.uid ∨ m.gid < 0 ∨ 1125899906842624 < m.gid then 4
  else if 60 < m.user.size ∨ 60 < m.group.size then 1
  else if hasB m.user 0 = true ∨ hasB m.group 0 = true then 3
  else timeFault m.second m.nano
theorem hasB_append (a b : ByteArray) (c : UInt8) : hasB (a ++ b) c = (hasB a c || hasB b c) := by
  unfold hasB
  have : (a ++ b).data.toList = a.data.toList ++ b.data.toList := by simp
  rw [this, List.any_append]
abbrev Meta.val (m : Meta) : Value := .agg #[.int .i64 m.mode, .int .i64 m.uid, .int .i64 m.gid, .string m.user, .string m.group, .int .i64 m.second, .int .i64 m.nano]
theorem metaFault_range {m : Meta} (h : m.mode < 0 ∨ 4095 < m.mode ∨ m.uid < 0 ∨ 1125899906842624 < m.uid ∨ m.gid < 0 ∨ 1125899906842624 < m.gid) : metaFault m = 4 := by unfold metaFault; rw [if_pos h]
theorem metaFault_size {m : Meta} (h : ¬ (m.mode < 0 ∨ 4095 < m.mode ∨ m.uid < 0 ∨ 1125899906842624 < m.uid ∨ m.gid < 0 ∨ 1125899906842624 < m.gid)) (h2 : 60 < m.user.size ∨ 60 < m.group.size) : metaFault m = 1 := by
  unfold metaFault; rw [if_neg h, if_pos h2]
theorem metaFault_form {m : Meta} (h : ¬ (m.mode < 0 ∨ 4095 < m.mode ∨ m.uid < 0 ∨ 1125899906842624 < m.uid ∨ m.gid < 0 ∨ 1125899906842624 < m.gid)) (h2 : ¬ (60 < m.user.size ∨ 60 < m.group.size)) (h3 : hasB m.user 0 = true ∨ hasB m.group 0 = true) : metaFault m = 3 := by
  unfold metaFault; rw [if_neg h, if_neg h2, if_pos h3]
theorem metaFault_time {m : Meta} (h : ¬ (m.mode < 0 ∨ 4095 < m.mode ∨ m.uid < 0 ∨ 1125899906842624 < m.uid ∨ m.gid < 0 ∨ 1125899906842624 < m.gid)) (h2 : ¬ (60 < m.user.size ∨ 60 < m.group.size)) (h3 : ¬ (hasB m.user 0 = true ∨ hasB m.group 0 = true)) : metaFault m = timeFault m.second m.nano := by
  unfold metaFault; rw [if_neg h, if_neg h2, if_neg h3]
end Go.Creel
namespace Go.Proofs.YtaffgndickdbiaaDoor
open Go.Creel Go.RowKit
set_option maxRecDepth 100000 in
theorem TimeFault_any (s n : Int) (w : World) :
    Calls Tryd.prog 102 #[.int .i64 s, .int .i64 n] w fun e w' => e = .returned (.int .i64 (timeFault s n)) ∧ w = w' := by
  have hF : (timeFault s n = 4 ∧ (s < -1099511627776 ∨ 1099511627776 < s ∨ n < 0 ∨ 999999999 < n)) ∨ (timeFault s n = 0 ∧ ¬ (s < -1099511627776 ∨ 1099511627776 < s ∨ n < 0 ∨ 999999999 < n)) := by
    unfold timeFault; split <;> simp_all
  have HF := Lib.hid hF
  clear hF
  go_enter Tryd.func102, Tryd.ntmps102
  go_wp2
  all_goals (go_ret; exact ⟨ret_i (by have := HF.out; omega), rfl⟩)
set_option maxRecDepth 100000 in
theorem StampCheck_any (s n : Int) (w : World) :
    Calls Tryd.prog 110 #[.int .i64 s, .int .i64 n] w fun e w' => e = .returned (.int .i64 (timeFault s n)) ∧ w = w' := by
  have hF : (timeFault s n = 4 ∧ (s < -1099511627776 ∨ 1099511627776 < s ∨ n < 0 ∨ 999999999 < n)) ∨ (timeFault s n = 0 ∧ ¬ (s < -1099511627776 ∨ 1099511627776 < s ∨ n < 0 ∨ 999999999 < n)) := by
    unfold timeFault; split <;> simp_all
  have HF := Lib.hid hF
  clear hF
  go_enter Tryd.func110, Tryd.ntmps110
  go_wp2
  all_goals (go_ret; exact ⟨ret_i (by have := HF.out; omega), rfl⟩)
set_option maxRecDepth 100000 in
set_option maxHeartbeats 2000000 in
theorem MetaCheck_any {N : Nat} (m : Meta) (w : World) (hm : m.Ok N) (hN : N ≤ maxLen) :
    Calls Tryd.prog 86 #[m.val] w fun e w' => e = .returned (.int .i64 (metaFault m)) ∧ Below w.heap.size w w' := by
  obtain ⟨mode, uid, gid, user, group, second, nano⟩ := m
  have hu : user.size ≤ maxLen := Nat.le_trans hm.user hN
  have hg : group.size ≤ maxLen := Nat.le_trans hm.group hN
  unfold maxLen at hu hg
  clear hm
  show Calls Tryd.prog 86 #[.agg #[.int .i64 mode, .int .i64 uid, .int .i64 gid, .string user, .string group, .int .i64 second, .int .i64 nano]] w _
  by_cases hR : mode < 0 ∨ 4095 < mode ∨ uid < 0 ∨ 1125899906842624 < uid ∨ gid < 0 ∨ 1125899906842624 < gid
  · have HF := Lib.hid (metaFault_range (m := ⟨mode, uid, gid, user, group, second, nano⟩) hR)
    rcases (show mode < 0 ∨ (0 ≤ mode ∧ 4095 < mode) ∨ (0 ≤ mode ∧ mode ≤ 4095 ∧ uid < 0) ∨ (0 ≤ mode ∧ mode ≤ 4095 ∧ 0 ≤ uid ∧ 1125899906842624 < uid) ∨ (0 ≤ mode ∧ mode ≤ 4095 ∧ 0 ≤ uid ∧ uid ≤ 1125899906842624 ∧ gid < 0) ∨ (0 ≤ mode ∧ mode ≤ 4095 ∧ 0 ≤ uid ∧ uid ≤ 1125899906842624 ∧ 0 ≤ gid ∧ 1125899906842624 < gid) by omega) with h1 | ⟨h1, h2⟩ | ⟨h1, h2, h3⟩ | ⟨h1, h2, h3, h4⟩ | ⟨h1, h2, h3, h4, h5⟩ | ⟨h1, h2, h3, h4, h5, h6⟩
    all_goals
      clear hR
      go_enter Tryd.func86, Tryd.ntmps86
      go_wp2
      go_ret
      exact ⟨ret_i HF.out, (Below.refl _ _).alloc (Nat.le_refl _) _⟩
  · have hr1 : 0 ≤ mode := by omega
    have hr2 : mode ≤ 4095 := by omega
    have hr3 : 0 ≤ uid := by omega
    have hr4 : uid ≤ 1125899906842624 := by omega
    have hr5 : 0 ≤ gid := by omega
    have hr6 : gid ≤ 1125899906842624 := by omega
    by_cases hZ : 60 < user.size ∨ 60 < group.size
    · have HF := Lib.hid (metaFault_size (m := ⟨mode, uid, gid, user, group, second, nano⟩) hR hZ)
      rcases (show 60 < user.size ∨ (user.size ≤ 60 ∧ 60 < group.size) by omega) with h1 | ⟨h1, h2⟩
      all_goals
        clear hR hZ
        go_enter Tryd.func86, Tryd.ntmps86
        go_wp2
        go_ret
        exact ⟨ret_i HF.out, (Below.refl _ _).alloc (Nat.le_refl _) _⟩
    · have hz1 : user.size ≤ 60 := by omega
      have hz2 : group.size ≤ 60 := by omega
      have hix := idx_has (user ++ group) 0
      rw [hasB_append] at hix
      by_cases hB : hasB user 0 = true ∨ hasB group 0 = true
      · have HF := Lib.hid (metaFault_form (m := ⟨mode, uid, gid, user, group, second, nano⟩) hR hZ hB)
        have hi2 : decide (0 ≤ firstIdx (user ++ group) 0) = true := by rw [hix]; simpa using hB
        clear hR hZ hB hix
        go_enter Tryd.func86, Tryd.ntmps86
        go_wp2_with (go_at_call 87; refine (IndexByte_any _ _ _).mono ?_; rintro e w' ⟨rfl, rfl⟩)
        go_ret
        exact ⟨ret_i HF.out, (Below.refl _ _).alloc (Nat.le_refl _) _⟩
      · have HF := Lib.hid (metaFault_time (m := ⟨mode, uid, gid, user, group, second, nano⟩) hR hZ hB)
        have hi2 : decide (0 ≤ firstIdx (user ++ group) 0) = false := by
          rw [hix]
          simp only [not_or, Bool.not_eq_true] at hB
          rw [hB.1, hB.2]; rfl
        clear hR hZ hB hix
        go_enter Tryd.func86, Tryd.ntmps86
        go_wp2_with (first | (go_at_call 87; refine (IndexByte_any _ _ _).mono ?_; rintro e w' ⟨rfl, rfl⟩) | (go_at_call 110; refine (StampCheck_any _ _ _).mono ?_; rintro e w' ⟨rfl, rfl⟩))
        go_ret
        exact ⟨ret_i HF.out, (Below.refl _ _).alloc (Nat.le_refl _) _⟩
set_option maxRecDepth 100000 in
set_option maxHeartbeats 2000000 in
theorem MetaFault_any {N : Nat} (m : Meta) (w : World) (hm : m.Ok N) (hN : N ≤ maxLen) :
    Calls Tryd.prog 91 #[m.val] w fun e w' => e = .returned (.int .i64 (metaFault m)) ∧ Below w.heap.size w w' := by
  obtain ⟨mode, uid, gid, user, group, second, nano⟩ := m
  have hu' : user.size ≤ maxLen := Nat.le_trans hm.user hN
  have hg' : group.size ≤ maxLen := Nat.le_trans hm.group hN
  have hu := hu'
  have hg := hg'
  unfold maxLen at hu hg
  clear hm
  show Calls Tryd.prog 91 #[.agg #[.int .i64 mode, .int .i64 uid, .int .i64 gid, .string user, .string group, .int .i64 second, .int .i64 nano]] w _
  by_cases hR : mode < 0 ∨ 4095 < mode ∨ uid < 0 ∨ 1125899906842624 < uid ∨ gid < 0 ∨ 1125899906842624 < gid
  · have HF := Lib.hid (metaFault_range (m := ⟨mode, uid, gid, user, group, second, nano⟩) hR)
    rcases (show mode < 0 ∨ (0 ≤ mode ∧ 4095 < mode) ∨ (0 ≤ mode ∧ mode ≤ 4095 ∧ uid < 0) ∨ (0 ≤ mode ∧ mode ≤ 4095 ∧ 0 ≤ uid ∧ 1125899906842624 < uid) ∨ (0 ≤ mode ∧ mode ≤ 4095 ∧ 0 ≤ uid ∧ uid ≤ 1125899906842624 ∧ gid < 0) ∨ (0 ≤ mode ∧ mode ≤ 4095 ∧ 0 ≤ uid ∧ uid ≤ 1125899906842624 ∧ 0 ≤ gid ∧ 1125899906842624 < gid) by omega) with h1 | ⟨h1, h2⟩ | ⟨h1, h2, h3⟩ | ⟨h1, h2, h3, h4⟩ | ⟨h1, h2, h3, h4, h5⟩ | ⟨h1, h2, h3, h4, h5, h6⟩
    all_goals
      clear hR
      go_enter Tryd.func91, Tryd.ntmps91
      go_wp2
      go_ret
      exact ⟨ret_i HF.out, (Below.refl _ _).alloc (Nat.le_refl _) _⟩
  · have hr1 : 0 ≤ mode := by omega
    have hr2 : mode ≤ 4095 := by omega
    have hr3 : 0 ≤ uid := by omega
    have hr4 : uid ≤ 1125899906842624 := by omega
    have hr5 : 0 ≤ gid := by omega
    have hr6 : gid ≤ 1125899906842624 := by omega
    by_cases hZ : 60 < user.size ∨ 60 < group.size
    · have HF := Lib.hid (metaFault_size (m := ⟨mode, uid, gid, user, group, second, nano⟩) hR hZ)
      rcases (show 60 < user.size ∨ (user.size ≤ 60 ∧ 60 < group.size) by omega) with h1 | ⟨h1, h2⟩
      all_goals
        clear hR hZ
        go_enter Tryd.func91, Tryd.ntmps91
        go_wp2
        go_ret
        exact ⟨ret_i HF.out, (Below.refl _ _).alloc (Nat.le_refl _) _⟩
    · have hz1 : user.size ≤ 60 := by omega
      have hz2 : group.size ≤ 60 := by omega
      by_cases hB : hasB user 0 = true ∨ hasB group 0 = true
      · have HF := Lib.hid (metaFault_form (m := ⟨mode, uid, gid, user, group, second, nano⟩) hR hZ hB)
        cases hU : hasB user 0 with
        | true =>
          clear hR hZ hB
          go_enter Tryd.func91, Tryd.ntmps91
          go_wp2_with (go_at_call 92; refine (has_any _ 0 0 rfl _ hu').mono ?_; rintro e w' ⟨rfl, rfl⟩)
          go_ret
          exact ⟨ret_i HF.out, (Below.refl _ _).alloc (Nat.le_refl _) _⟩
        | false =>
          have hG : hasB group 0 = true := by simpa [hU] using hB
          clear hR hZ hB
          go_enter Tryd.func91, Tryd.ntmps91
          go_wp2_with fail
          refine (has_any _ 0 0 rfl _ hu').mono ?_
          rintro e w' ⟨rfl, rfl⟩
          go_wp2_with fail
          refine (has_any _ 0 0 rfl _ hg').mono ?_
          rintro e w' ⟨rfl, rfl⟩
          go_wp2
          go_ret
          exact ⟨ret_i HF.out, (Below.refl _ _).alloc (Nat.le_refl _) _⟩
      · have HF := Lib.hid (metaFault_time (m := ⟨mode, uid, gid, user, group, second, nano⟩) hR hZ hB)
        have hU : hasB user 0 = false := by simp only [not_or, Bool.not_eq_true] at hB; exact hB.1
        have hG : hasB group 0 = false := by simp only [not_or, Bool.not_eq_true] at hB; exact hB.2
        clear hR hZ hB
        go_enter Tryd.func91, Tryd.ntmps91
        go_wp2_with fail
        refine (has_any _ 0 0 rfl _ hu').mono ?_
        rintro e w' ⟨rfl, rfl⟩
        go_wp2_with fail
        refine (has_any _ 0 0 rfl _ hg').mono ?_
        rintro e w' ⟨rfl, rfl⟩
        go_wp2_with fail
        refine (TimeFault_any _ _ _).mono ?_
        rintro e w' ⟨rfl, rfl⟩
        go_wp2
        go_ret
        exact ⟨ret_i HF.out, (Below.refl _ _).alloc (Nat.le_refl _) _⟩
end Go.Proofs.YtaffgndickdbiaaDoor
namespace Go.Creel
open Go.RowKit
def AppTo (P : Program) (w : World) (t tx ty : TypeId) (v x : Value) (base e size n m : Nat) (xs news : List Value) : Prop :=
  ∃ v' w', (Builtin.append_ #[t, tx] ty #[v, x]).run P w = .ok v' w' ∧ w'.ownsRow base e size v' (n + m) (xs ++ news) ∧ w.grownBy w' v.ownBlock ∧ (v' = .slice none 0 0 ↔ v = .slice none 0 0 ∧ m = 0) ∧ (v'.ownBlock = v.ownBlock ∨ ∃ b, v'.ownBlock = some b ∧ w.heap.size ≤ b)
theorem setCells_row (g : Nat) {e : TypeId} : ∀ (vs : List Value) (o : Nat) (w : World) (cur : Array Value), w.heap[g]? = some (.cells cur e (0, 0)) → o + vs.length ≤ cur.size →
    ∃ cur' : Array Value, (w.setCells g o vs).heap[g]? = some (.cells cur' e (0, 0)) ∧ cur'.size = cur.size ∧ cur'.toList.take (o + vs.length) = cur.toList.take o ++ vs
  | [], o, w, cur, h, _ => ⟨cur, h, rfl, by simp⟩
  | v :: r, o, w, cur, h, hl => by
    have h1 := heap_setCell_same w g o cur e v h
    obtain ⟨cur', a1, a2, a3⟩ := setCells_row g r (o + 1) (w.setCell ⟨g, o, none⟩ v) _ h1 (by simp at hl ⊢; omega)
    refine ⟨cur', a1, by simpa using a2, ?_⟩
    have e1 : o + (v :: r).length = o + 1 + r.length := by simp; omega
    rw [e1, a3]
    have ho : o < cur.toList.length := by simp at hl ⊢; omega
    rw [Array.toList_setIfInBounds, List.take_succ_eq_append_getElem (by simpa using ho)]
    simp [List.take_set, List.getElem_set]
    exact List.set_eq_of_length_le (by simp; omega)
theorem setCells_other (g : Nat) : ∀ (vs : List Value) (o : Nat) (w : World) (k : Nat), k ≠ g → (w.setCells g o vs).heap[k]? = w.heap[k]?
  | [], _, _, _, _ => rfl
  | v :: r, o, w, k, h => by
    rw [World.setCells, setCells_other g r _ _ k h]
    exact heap_setCell_other w ⟨g, o, none⟩ k v (by simpa using h)
theorem setCells_meta (g : Nat) : ∀ (vs : List Value) (o : Nat) (w : World), (w.setCells g o vs).os = w.os ∧ (w.setCells g o vs).tape = w.tape ∧ (w.setCells g o vs).output = w.output ∧ (w.setCells g o vs).heap.size = w.heap.size
  | [], _, _ => ⟨rfl, rfl, rfl, rfl⟩
  | v :: r, o, w => by
    obtain ⟨h1, h2, h3, h4⟩ := setCells_meta g r (o + 1) (w.setCell ⟨g, o, none⟩ v)
    exact ⟨h1, h2, h3, by rw [World.setCells, h4]; simp⟩
section
variable {P : Program} (w : World)
theorem own_grown (base e size n m old : Nat) (z : Value) (xs news : List Value) (hzs : z.cells.size = size) (hxs : xs.length = n * size) (hl : news.length = m * size) (h63 : n + m ≤ maxLen) (ho : old < n + m) (hbase : base ≤ w.heap.size) (row : Option Nat) :
    (w.drew.alloc (.cells ((xs ++ news).toArray ++ Builtin.zeroCells z.cells (grownCap w (n + m) old e - (n + m))) e)).ownsRow base e size
      (.slice (some ⟨w.heap.size, 0, none⟩) (n + m) (grownCap w (n + m) old e)) (n + m) (xs ++ news) ∧
    w.grownBy (w.drew.alloc (.cells ((xs ++ news).toArray ++ Builtin.zeroCells z.cells (grownCap w (n + m) old e - (n + m))) e)) row := by
  have hge := grownCap_ge w (n + m) old e
  have hcm : grownCap w (n + m) old e ≤ maxLen := grownCap_le_maxLen w (n + m) old e h63
  have hlen : (xs ++ news).length = (n + m) * size := by rw [List.length_append, hxs, hl, Nat.add_mul]
  refine ⟨⟨hlen, .inr ⟨w.heap.size, _, _, rfl, hbase, heap_alloc_new w.drew _, hge, hcm, ?_, ?_⟩⟩, ⟨rfl, rfl, rfl, by simp, fun k hk _ => heap_alloc_old w.drew _ hk⟩⟩
  · simp only [Array.size_append, List.size_toArray, size_zeroCells, hzs, hlen, ← Nat.add_mul]
    congr 1
    omega
  · simp only [Array.toList_append]
    rw [← hlen]
    exact List.take_left
theorem own_room (base e size n m g cap : Nat) (cur : Array Value) (xs news : List Value) (hxs : xs.length = n * size) (hl : news.length = m * size) (hbg : base ≤ g) (hg : w.heap[g]? = some (.cells cur e (0, 0))) (hcm : cap ≤ maxLen) (hcs : cur.size = cap * size)
    (htake : cur.toList.take (n * size) = xs) (hroom : n + m ≤ cap) :
    (w.setCells g (n * size) news).ownsRow base e size (.slice (some ⟨g, 0, none⟩) (n + m) cap) (n + m) (xs ++ news) ∧ w.grownBy (w.setCells g (n * size) news) (some g) := by
  have hfit : n * size + news.length ≤ cur.size := by rw [hl, hcs, ← Nat.add_mul]; exact Nat.mul_le_mul_right _ hroom
  obtain ⟨cur', a1, a2, a3⟩ := setCells_row g news (n * size) w cur hg hfit
  obtain ⟨m1, m2, m3, m4⟩ := setCells_meta g news (n * size) w
  refine ⟨⟨by rw [List.length_append, hxs, hl, Nat.add_mul], .inr ⟨g, cap, cur', rfl, hbg, a1, hroom, hcm, a2.trans hcs, ?_⟩⟩, ⟨m1, m2, m3, by omega, fun k _ hk => setCells_other g news _ w k (fun e => hk (by rw [e]))⟩⟩
  rw [← htake, ← a3, hl, ← Nat.add_mul]
theorem app_src (t tx ty base e : TypeId) (i : TypeInfo) (z : Value) (size bytes : Nat) (ht : P.underlying t = some (.slice e)) (hi : P.info? e = some i) (hz : i.zero = some z)
    (hsize : i.size = size) (hby : i.bytes = bytes) (hzs : z.cells.size = size) (hsz : 0 < size)
    (v x : Value) (n m : Nat) (xs news : List Value) (hown : w.ownsRow base e size v n xs) (hs : Src P size tx x m news w)
    (h63 : n + m ≤ maxLen) (hbytes : (n + m) * bytes ≤ 140737488355328) (hbase : base ≤ w.heap.size) : AppTo P w t tx ty v x base e size n m xs news := by
  subst hsize
  subst hby
  have hsmall : n + m ≤ 9223372036854775807 := by simp only [maxLen] at h63; omega
  rcases hown.2 with ⟨rfl, rfl⟩ | ⟨g, cap, cur, rfl, hbg, hg, hnc, hcm, hcs, htake⟩
  · have hx : xs = [] := List.eq_nil_of_length_eq_zero (by simpa using hown.1)
    subst hx
    by_cases hm : m = 0
    · subst hm
      have hn : news = [] := List.eq_nil_of_length_eq_zero (by simpa using hs.newsLen)
      subst hn
      refine ⟨.slice none 0 0, w, ?_, World.ownsRow_nil w base e i.size, ⟨rfl, rfl, rfl, Nat.le_refl _, fun _ _ _ => rfl⟩, ⟨by simp, .inl rfl⟩⟩
      rcases hs.kind with ⟨e', hk⟩ | hk <;> simp [Builtin.append_, run_underlying ht, run_underlying hk, sizeOf, typeInfo, hi, hs.len, hs.cells]
    · have hold : (Builtin.firstCells i.size 0 (.slice none 0 0)).run P w.drew = .ok ([] : List Value).toArray w.drew := run_firstCells_none w.drew i.size 0 0 0
      have hr := run_append_grow_src (P := P) w t tx ty e i z ht hi hz none 0 0 [] hold x m news hs (by omega) (by omega) (growslice_fits (by omega) (by simpa using hbytes))
      have hgr := own_grown w base e i.size 0 m 0 z [] news hzs (by simp) hs.newsLen h63 (by omega) hbase none
      exact ⟨_, _, hr, hgr.1, hgr.2, ⟨by simp [hm], .inr ⟨_, rfl, Nat.le_refl _⟩⟩⟩
  · by_cases hroom : n + m ≤ cap
    · have hfit : n * i.size + news.length ≤ cur.size := by rw [hs.newsLen, hcs, ← Nat.add_mul]; exact Nat.mul_le_mul_right _ hroom
      have hr := run_append_room_src (P := P) w t tx ty e i ht hi g 0 n cap x m news hs hroom
        (fun j hj => by rw [cell_of_row w g _ cur e (0, 0) hg, Nat.zero_add, Array.getElem?_eq_getElem (by omega)]; rfl) (fun j _ => frozen_of_row w g _ cur e hg)
      rw [Nat.zero_add] at hr
      have ho := own_room w base e i.size n m g cap cur xs news hown.1 hs.newsLen hbg hg hcm hcs htake hroom
      exact ⟨_, _, hr, ho.1, ho.2, ⟨by simp, .inl rfl⟩⟩
    · have holds : ∀ j u, xs[j]? = some u → w.drew.cell? ((⟨g, 0, none⟩ : Addr).add j) = some u := fun j u hu => hown.cells (g := g) rfl j u hu
      have hold := run_firstCells_some (P := P) w.drew i.size n ⟨g, 0, none⟩ n cap xs hown.1 holds
      have hr := run_append_grow_src (P := P) w t tx ty e i z ht hi hz (some ⟨g, 0, none⟩) n cap xs hold x m news hs (by omega) (by omega) (growslice_fits (by omega) hbytes)
      have hgr := own_grown w base e i.size n m cap z xs news hzs hown.1 hs.newsLen h63 (by omega) hbase (some g)
      exact ⟨_, _, hr, hgr.1, hgr.2, ⟨by simp, .inr ⟨_, rfl, Nat.le_refl _⟩⟩⟩
theorem wpList_app {ops : Array Oper} {rest : List Oper} {o : Oper} {a : Act} {Q : Exit → Act → World → Prop} (hgd : o.guard = none) (s x : Operand) (t tx : TypeId)
    (ho : o.op = .call { callee := .builtin .append, args := #[s, x], argTypes := #[t, tx] }) (vs vx : Value) (hs : a.eval s = vs) (hx : a.eval x = vx) {base e size n m : Nat} {xs news : List Value}
    (happ : ∀ ty, AppTo P w t tx ty vs vx base e size n m xs news)
    (h : ∀ v' w', w'.ownsRow base e size v' (n + m) (xs ++ news) → w.grownBy w' vs.ownBlock → ((v' = .slice none 0 0 ↔ vs = .slice none 0 0 ∧ m = 0) ∧ (v'.ownBlock = vs.ownBlock ∨ ∃ b, v'.ownBlock = some b ∧ w.heap.size ≤ b)) → wpList P ops Q rest (a.put o.dst v') w') : wpList P ops Q (o :: rest) a w := by
  obtain ⟨v', w', hr, h1, h2, h3⟩ := happ o.type
  exact Lib.wpList_append_run w hgd s x t tx ho vs vx hs hx v' w' hr (h v' w' h1 h2 h3)
end
def OwnBs (t : TypeId) (w : World) (B : Nat) (v : Value) (l : List UInt8) : Prop := w.ownsRow B t 1 v l.length (l.map byteV)
theorem OwnBs.nil (t : TypeId) (w : World) (B : Nat) : OwnBs t w B (.slice none 0 0) [] := World.ownsRow_nil w B t 1
theorem OwnBs.slice {t : TypeId} {w : World} {B N : Nat} {v : Value} {l : List UInt8} (h : OwnBs t w B v l) (hN : l.length ≤ N) : SliceC N 1 ByteC w [v] l := by
  rcases h.2 with ⟨rfl, h0⟩ | ⟨g, cap, cur, rfl, hbg, hg, hnc, hcm, hcs, htake⟩
  · obtain rfl : l = [] := List.eq_nil_of_length_eq_zero h0
    exact ⟨none, 0, rfl, by simp, by simp, by simp, fun _ => rfl, fun h => absurd h (by simp)⟩
  · refine ⟨some ⟨g, 0, none⟩, cap, rfl, hnc, hcm, hN, (fun h => by cases h), fun _ => ⟨g, 0, rfl, fun i hi => ⟨[byteV l[i]], rfl, fun j hj => ?_, rfl⟩⟩⟩
    obtain rfl : j = 0 := by omega
    have := OwnB.cell (t := t) (w := w) (B := B) (g := g) (cap := cap) (l := l) h hi
    simp only [Nat.zero_add, Nat.mul_one, Nat.add_zero]
    rw [this]
    simp [bl, byteV, List.getD_eq_getElem?_getD, List.getElem?_eq_getElem hi]
theorem OwnBs.form {t : TypeId} {w : World} {B : Nat} {v : Value} {l : List UInt8} (h : OwnBs t w B v l) : (v = .slice none 0 0 ∧ l = []) ∨ ∃ g cap, v = .slice (some ⟨g, 0, none⟩) l.length cap ∧ OwnB t w B g cap l := by
  rcases h.2 with ⟨rfl, h0⟩ | ⟨g, cap, cur, rfl, hbg, hg, hnc, hcm, hcs, htake⟩
  · exact .inl ⟨rfl, List.eq_nil_of_length_eq_zero h0⟩
  · exact .inr ⟨g, cap, rfl, h⟩
theorem src_bytes {P : Program} {w : World} {N : Nat} {v : Value} {l : List UInt8} {tx e' : TypeId} (hk : P.underlying tx = some (.slice e')) (h : SliceC N 1 ByteC w [v] l) : Src P 1 tx v l.length (l.map byteV) w := by
  have hone : ∀ u ∈ l.map byteV, u.oneCell' = true := by
    intro u hu
    obtain ⟨_, _, rfl⟩ := List.mem_map.1 hu
    rfl
  rcases bytes_cases h with ⟨a, cap, rfl, rfl⟩ | ⟨b, off, cap, rfl, hpos, hle, hm, _, hc⟩
  · cases a with
    | none => exact Src.ofNil w hk cap
    | some a => exact Src.ofSlice w hk a 0 cap [] (by simp) (fun j u hu => by simp at hu) (fun u hu => by simp at hu)
  · refine Src.ofSlice w hk ⟨b, off, none⟩ l.length cap (l.map byteV) (by simp) (fun j u hu => ?_) hone
    have hj : j < l.length := by
      rcases Nat.lt_or_ge j l.length with h | h
      · exact h
      · rw [List.getElem?_eq_none (by simpa using h)] at hu; cases hu
    have e : (⟨b, off, none⟩ : Addr).add j = ⟨b, off + j, none⟩ := by unfold Addr.add; split <;> simp_all
    rw [e, hc j hj]
    simp [List.getElem?_eq_getElem hj] at hu
    rw [← hu]
    simp [bl, byteV, List.getD_eq_getElem?_getD, List.getElem?_eq_getElem hj]
theorem app_bytes {P : Program} (w : World) (t tx e e' : TypeId) (i : TypeInfo) (ht : P.underlying t = some (.slice e)) (htx : P.underlying tx = some (.slice e')) (hi : P.info? e = some i) (hz : i.zero = some (.int .u8 0)) (h1 : i.size = 1) (hb : i.bytes = 1)
    {B N : Nat} {v x : Value} {l m : List UInt8} (hv : OwnBs e w B v l) (hx : SliceC N 1 ByteC w [x] m) (hbound : l.length + m.length ≤ 140737488355328) (hB : B ≤ w.heap.size) (ty : TypeId) :
    AppTo P w t tx ty v x B e 1 l.length m.length (l.map byteV) (m.map byteV) :=
  app_src w t tx ty B e i (.int .u8 0) 1 1 ht hi hz h1 hb rfl (by decide) v x l.length m.length _ _ hv (src_bytes htx hx) (by unfold maxLen; omega) (by omega) hB
theorem OwnBs.app {t : TypeId} {w' : World} {B : Nat} {v' : Value} {l m : List UInt8} (h : w'.ownsRow B t 1 v' (l.length + m.length) (l.map byteV ++ m.map byteV)) : OwnBs t w' B v' (l ++ m) := by
  unfold OwnBs
  rw [List.length_append, List.map_append]
  exact h
theorem below_app {B : Nat} {w0 w w' : World} {e size n : Nat} {v : Value} {xs : List Value} (hb : Below B w0 w) (hg : w.grownBy w' v.ownBlock) (hv : w.ownsRow B e size v n xs) (hB : B ≤ w.heap.size) : Below B w0 w' :=
  hb.grown hg hB (fun k hk => (World.ownsRow.lt hv k hk).1)
theorem src_one {P : Program} (w : World) (tx e' e : TypeId) (hk : P.underlying tx = some (.slice e')) (c : Value) (hc : c.oneCell' = true) : Src P 1 tx (.slice (some ⟨w.heap.size, 0, none⟩) 1 1) 1 [c] (w.alloc (.cells #[c] e)) := by
  refine Src.ofSlice _ hk ⟨w.heap.size, 0, none⟩ 1 1 [c] rfl (fun j u hu => ?_) (fun u hu => by simp at hu; rw [hu]; exact hc)
  match j, hu with
  | 0, hu =>
    simp at hu
    subst hu
    simp [Addr.add]
end Go.Creel
namespace Go.Proofs
open Go.Shelf
def Tryd.lays149_ren : Go.Shelf.Ren := ⟨fun | 149 => 103 | 222 => 115 | n => n, fun | 9 => 9 | 5 => 5 | 3 => 3 | 4 => 4 | n => n, fun | n => n⟩
theorem Tryd.lays149 : Go.Proofs.Lays.n149 Tryd.prog Tryd.lays149_ren := {
  mixed := by kernel_rfl
  f149 := Tryd.func103.trans (congrArg some (by kernel_rfl))
  f222 := Tryd.func115.trans (congrArg some (by kernel_rfl))
  t3 := Tryd.underlying3
  a3 := Tryd.isAgg3
  z3 := Tryd.sizeOf3
  v3 := Tryd.zeroValue3
  t4 := Tryd.underlying4
  a4 := Tryd.isAgg4
  z4 := Tryd.sizeOf4
  v4 := Tryd.zeroValue4
  t5 := Tryd.underlying5
  a5 := Tryd.isAgg5
  z5 := Tryd.sizeOf5
  v5 := Tryd.zeroValue5
  t9 := Tryd.underlying9
  a9 := Tryd.isAgg9
  z9 := Tryd.sizeOf9
  v9 := Tryd.zeroValue9 }
open Go.RowKit Go.Lib in
theorem Tryd.strings_LastIndexByte (s : ByteArray) (c : Int) (hs : s.size < 4611686018427387904) (w : World) :
    Calls Tryd.prog 103 #[.string s, .int .u8 c] w fun e w' => e = .returned (.int .i64 (Lib.lastIndexByte s c)) ∧ w' = w := Any.strings_LastIndexByte Tryd.lays149 s c hs w
def Tryd.lays146_ren : Go.Shelf.Ren := ⟨fun | 146 => 105 | 221 => 117 | 268 => 134 | 138 => 135 | 143 => 136 | 195 => 151 | 197 => 152 | 218 => 153 | 219 => 154 | 260 => 161 | 217 => 111 | 225 => 162 | 224 => 163 | 267 => 164 | 266 => 119 | 314 => 166 | n => n, fun | 9 => 9 | 31 => 44 | 3 => 3 | 4 => 4 | 0 => 0 | 105 => 179 | 21 => 21 | 5 => 5 | 46 => 140 | 119 => 191 | 139 => 194 | 138 => 193 | 146 => 173 | 51 => 170 | n => n, fun | 1 => 0 | 3 => 4 | 4 => 5 | n => n⟩
theorem Tryd.lays146 : Go.Proofs.Lays.n146 Tryd.prog Tryd.lays146_ren := {
  mixed := by kernel_rfl
  f138 := Tryd.func135.trans (congrArg some (by kernel_rfl))
  f143 := Tryd.func136.trans (congrArg some (by kernel_rfl))
  f146 := Tryd.func105.trans (congrArg some (by kernel_rfl))
  f195 := Tryd.func151.trans (congrArg some (by kernel_rfl))
  f197 := Tryd.func152.trans (congrArg some (by kernel_rfl))
  f217 := Tryd.func111.trans (congrArg some (by kernel_rfl))
  f218 := Tryd.func153.trans (congrArg some (by kernel_rfl))
  f219 := Tryd.func154.trans (congrArg some (by kernel_rfl))
  f221 := Tryd.func117.trans (congrArg some (by kernel_rfl))
  f224 := Tryd.func163.trans (congrArg some (by kernel_rfl))
  f225 := Tryd.func162.trans (congrArg some (by kernel_rfl))
  f260 := Tryd.func161.trans (congrArg some (by kernel_rfl))
  f266 := Tryd.func119.trans (congrArg some (by kernel_rfl))
  f267 := Tryd.func164.trans (congrArg some (by kernel_rfl))
  f268 := Tryd.func134.trans (congrArg some (by kernel_rfl))
  f314 := Tryd.func166.trans (congrArg some (by kernel_rfl))
  t0 := Tryd.underlying0
  a0 := Tryd.isAgg0
  z0 := Tryd.sizeOf0
  v0 := Tryd.zeroValue0
  t3 := Tryd.underlying3
  a3 := Tryd.isAgg3
  z3 := Tryd.sizeOf3
  v3 := Tryd.zeroValue3
  t4 := Tryd.underlying4
  a4 := Tryd.isAgg4
  z4 := Tryd.sizeOf4
  v4 := Tryd.zeroValue4
  t5 := Tryd.underlying5
  a5 := Tryd.isAgg5
  z5 := Tryd.sizeOf5
  v5 := Tryd.zeroValue5
  t9 := Tryd.underlying9
  a9 := Tryd.isAgg9
  z9 := Tryd.sizeOf9
  v9 := Tryd.zeroValue9
  t21 := Tryd.underlying21
  a21 := Tryd.isAgg21
  z21 := Tryd.sizeOf21
  v21 := Tryd.zeroValue21
  t31 := Tryd.underlying44
  a31 := Tryd.isAgg44
  z31 := Tryd.sizeOf44
  v31 := Tryd.zeroValue44
  t46 := Tryd.underlying140
  a46 := Tryd.isAgg140
  z46 := Tryd.sizeOf140
  v46 := Tryd.zeroValue140
  t51 := Tryd.underlying170
  a51 := Tryd.isAgg170
  z51 := Tryd.sizeOf170
  v51 := Tryd.zeroValue170
  t105 := Tryd.underlying179
  a105 := Tryd.isAgg179
  z105 := Tryd.sizeOf179
  v105 := Tryd.zeroValue179
  t119 := Tryd.underlying191
  a119 := Tryd.isAgg191
  z119 := Tryd.sizeOf191
  t138 := Tryd.underlying193
  a138 := Tryd.isAgg193
  z138 := Tryd.sizeOf193
  v138 := Tryd.zeroValue193
  t139 := Tryd.underlying194
  a139 := Tryd.isAgg194
  z139 := Tryd.sizeOf194
  v139 := Tryd.zeroValue194
  t146 := Tryd.underlying173
  a146 := Tryd.isAgg173
  z146 := Tryd.sizeOf173
  v146 := Tryd.zeroValue173
  g1 := by kernel_rfl
  g3 := by kernel_rfl
  g4 := by kernel_rfl }
open Go.RowKit Go.Lib in
theorem Tryd.strings_Split (s sep : ByteArray) (m : Int) (w : World) (hs : s.size < 4294967281) (hm : w.cell? ⟨0, 0, none⟩ = some (.int .i64 m)) (h1 : 1 ≤ sep.size) :
    Calls Tryd.prog 105 #[.string s, .string sep] w fun e w' =>
      e = .returned (.slice (some ⟨w.heap.size, 0, none⟩) (Lib.countB s sep + 1) (Lib.countB s sep + 1)) ∧ w' = w.alloc (.cells ((Lib.splitB sep 0 (Lib.countB s sep) s).map Value.string).toArray 9) := Any.strings_Split Tryd.lays146 (by kernel_rfl) s sep m w hs hm h1
end Go.Proofs
