/-
  Faults: what a slice of faults says of the cells; the place of a path; fault.Check and its reference.
-/
import Derived.Test.YtiiojjhfncefgaaDoorPathFault
import Derived.Test.YtiiojjhfncefgaaDoorPathCheck
import Derived.Test.YtiiojjhfncefgaaDoorTree
namespace Go.Creel
set_option linter.unusedVariables false
open Go.RowKit
structure Flt where
  path : ByteArray
  code : Int
def FltC (N : Nat) (_ : World) (cs : List Value) (x : Flt) : Prop := cs = [.string x.path, .int .i64 x.code] ∧ x.path.size ≤ N ∧ i64 x.code
def fltZ : Flt := ⟨.empty, 0⟩
def fk (l : List Flt) (k : Nat) : Flt := l.getD k fltZ
theorem fk_eq {l : List Flt} {k : Nat} (h : k < l.length) : fk l k = l[k] := by simp [fk, List.getD_eq_getElem?_getD, List.getElem?_eq_getElem h]
theorem fk_take {l : List Flt} {i j : Nat} (h : j < i) : fk (l.take i) j = fk l j := by
  simp [fk, List.getD_eq_getElem?_getD, h]
abbrev Flt.val (x : Flt) : Value := .agg #[.string x.path, .int .i64 x.code]
def FltAt (w : World) (b o : Nat) (x : Flt) : Prop := w.cell? ⟨b, o, none⟩ = some (.string x.path) ∧ w.cell? ⟨b, o + 1, none⟩ = some (.int .i64 x.code)
def FltsAt (w : World) (b off : Nat) (l : List Flt) : Prop := ∀ i, i < l.length → FltAt w b (off + i * 2) (fk l i)
theorem FltAt.lt {w : World} {b o : Nat} {x : Flt} (h : FltAt w b o x) : b < w.heap.size := World.block_lt_of_cell? w _ h.1
theorem FltAt.below {w w' : World} {b o : Nat} {x : Flt} (h : FltAt w b o x) (hb : Below w.heap.size w w') : FltAt w' b o x := by
  have hlt := h.lt
  obtain ⟨h0, h1⟩ := h
  exact ⟨(hb.cell (p := ⟨b, o, none⟩) hlt).trans h0, (hb.cell (p := ⟨b, o + 1, none⟩) hlt).trans h1⟩
theorem FltsAt.below {w w' : World} {b off : Nat} {l : List Flt} (h : FltsAt w b off l) (hb : Below w.heap.size w w') : FltsAt w' b off l := fun i hi => (h i hi).below hb
theorem FltsAt.take {w : World} {b off : Nat} {l : List Flt} (h : FltsAt w b off l) (i : Nat) : FltsAt w b off (l.take i) := by
  intro j hj
  have hj' : j < i ∧ j < l.length := by simp at hj; omega
  rw [fk_take hj'.1]
  exact h j hj'.2
theorem FltAt.zero {w : World} {b : Nat} {x : Flt} (h : FltAt w b 0 x) : w.cell? ⟨b, 0, none⟩ = some (.string x.path) ∧ w.cell? ⟨b, 1, none⟩ = some (.int .i64 x.code) := h
theorem fltAt_box (w : World) (x : Flt) (t : TypeId) : FltAt (w.alloc (.cells #[.string x.path, .int .i64 x.code] t)) w.heap.size 0 x := by
  refine ⟨?_, ?_⟩ <;> simp [World.cell?_alloc_new]
theorem flts_cases {N : Nat} {w : World} {v : Value} {l : List Flt} (h : SliceC N 2 (FltC N) w [v] l) : (∃ a cap, v = .slice a 0 cap ∧ l = [] ∧ cap ≤ maxLen ∧ (a = none → cap = 0)) ∨
    ∃ b off cap, v = .slice (some ⟨b, off, none⟩) l.length cap ∧ 0 < l.length ∧ l.length ≤ cap ∧ cap ≤ maxLen ∧ l.length ≤ N ∧ FltsAt w b off l ∧ ∀ i, i < l.length → (fk l i).path.size ≤ N ∧ i64 (fk l i).code := by
  obtain ⟨a, cap, hv, h1, h2, h3, h5, h4⟩ := h
  simp only [List.cons.injEq, and_true] at hv
  by_cases hl : 0 < l.length
  · obtain ⟨b, off, rfl, hc⟩ := h4 hl
    refine .inr ⟨b, off, cap, hv, hl, h1, h2, h3, fun i hi => ?_, fun i hi => ?_⟩
    · obtain ⟨c, _, hcc, hE, hn⟩ := hc i hi
      rw [fk_eq hi]
      subst hE
      exact ⟨hcc 0 (by omega), hcc 1 (by omega)⟩
    · obtain ⟨c, _, hcc, hE, hn⟩ := hc i hi
      rw [fk_eq hi]
      exact hn
  · have : l = [] := by
      cases l with
      | nil => rfl
      | cons x r => simp at hl
    subst this
    exact .inl ⟨a, cap, by simpa using hv, rfl, h2, h5⟩
/-- the place of a path: as many as there are, where there is none -/
def fltFind : List Flt → ByteArray → Nat
  | [], _ => 0
  | x :: t, s => if x.path = s then 0 else fltFind t s + 1
theorem fltFind_le : ∀ (l : List Flt) (s : ByteArray), fltFind l s ≤ l.length
  | [], _ => Nat.le_refl _
  | x :: t, s => by
    have := fltFind_le t s
    unfold fltFind
    split <;> simp <;> omega
theorem fltFind_at : ∀ {l : List Flt} {s : ByteArray} {k : Nat}, k < l.length → (∀ j, j < k → (fk l j).path ≠ s) → (fk l k).path = s → fltFind l s = k
  | [], _, _, h, _, _ => absurd h (by simp)
  | x :: t, s, 0, _, _, he => by unfold fltFind; exact if_pos he
  | x :: t, s, k + 1, h, hn, he => by
    unfold fltFind
    rw [if_neg (show x.path ≠ s from hn 0 (by omega)), fltFind_at (k := k) (by simpa using h) (fun j hj => hn (j + 1) (by omega)) he]
theorem fltFind_no : ∀ {l : List Flt} {s : ByteArray}, (∀ j, j < l.length → (fk l j).path ≠ s) → fltFind l s = l.length
  | [], _, _ => rfl
  | x :: t, s, hn => by
    unfold fltFind
    rw [if_neg (show x.path ≠ s from hn 0 (by simp)), fltFind_no (fun j hj => hn (j + 1) (by simpa using hj))]
    rfl
theorem fltFind_ne : ∀ {l : List Flt} {s : ByteArray} {j : Nat}, j < fltFind l s → (fk l j).path ≠ s
  | [], _, _, h => absurd h (by simp [fltFind])
  | x :: t, s, j, h => by
    unfold fltFind at h
    by_cases e : x.path = s
    · rw [if_pos e] at h; omega
    · rw [if_neg e] at h
      cases j with
      | zero => exact e
      | succ j => exact fltFind_ne (l := t) (by omega)
theorem fltFind_lt : ∀ {l : List Flt} {s : ByteArray}, fltFind l s < l.length → (fk l (fltFind l s)).path = s
  | [], _, h => absurd h (by simp)
  | x :: t, s, h => by
    unfold fltFind at h ⊢
    by_cases e : x.path = s
    · rw [if_pos e]; exact e
    · rw [if_neg e] at h ⊢
      have h' : fltFind t s < t.length := by simp at h; omega
      exact fltFind_lt h'
/-- what is wrong with fault i, where nothing is wrong ahead of it -/
def TwoOk (l : List Flt) (i : Nat) : Prop := ∀ j, j < i → (fk l j).path ≠ (fk l i).path
open Classical in
noncomputable def stepL (l : List Flt) (i : Nat) : Int :=
  if ¬ pathFault (fk l i).path = 0 then pathFault (fk l i).path else if (fk l i).code < 1 then 4 else if ¬ TwoOk l i then 6 else 0
open Classical in
noncomputable def fltsFault (l : List Flt) : Int :=
  if 12 < l.length then 1 else if h : ∃ k, k < l.length ∧ stepL l k ≠ 0 ∧ ∀ j, j < k → stepL l j = 0 then stepL l (Classical.choose h) else 0
theorem fltsFault_many {l : List Flt} (h : 12 < l.length) : fltsFault l = 1 := by unfold fltsFault; rw [if_pos h]
theorem fltsFault_at {l : List Flt} {k : Nat} {e : Int} (hl : l.length ≤ 12) (hk : k < l.length) (hz : ∀ j, j < k → stepL l j = 0) (he : stepL l k = e) (hne : e ≠ 0) : fltsFault l = e := by
  have hex : ∃ k, k < l.length ∧ stepL l k ≠ 0 ∧ ∀ j, j < k → stepL l j = 0 := ⟨k, hk, by rw [he]; exact hne, hz⟩
  unfold fltsFault
  rw [if_neg (by omega), dif_pos hex]
  obtain ⟨h1, h2, h3⟩ := Classical.choose_spec hex
  have : Classical.choose hex = k := by
    rcases Nat.lt_trichotomy (Classical.choose hex) k with h | h | h
    · exact absurd (hz _ h) h2
    · exact h
    · exact absurd (h3 _ h) (by rw [he]; exact hne)
  rw [this, he]
theorem fltsFault_ok {l : List Flt} (hl : l.length ≤ 12) (hz : ∀ j, j < l.length → stepL l j = 0) : fltsFault l = 0 := by
  unfold fltsFault
  rw [if_neg (by omega), dif_neg (by rintro ⟨k, h1, h2, _⟩; exact h2 (hz k h1))]
theorem stepL_path {l : List Flt} {i : Nat} (h : ¬ pathFault (fk l i).path = 0) : stepL l i = pathFault (fk l i).path := by unfold stepL; rw [if_pos h]
theorem stepL_code {l : List Flt} {i : Nat} (h : pathFault (fk l i).path = 0) (h1 : (fk l i).code < 1) : stepL l i = 4 := by unfold stepL; rw [if_neg (by simpa using h), if_pos h1]
theorem stepL_two {l : List Flt} {i : Nat} (h : pathFault (fk l i).path = 0) (h1 : ¬ (fk l i).code < 1) (h2 : ¬ TwoOk l i) : stepL l i = 6 := by unfold stepL; rw [if_neg (by simpa using h), if_neg h1, if_pos h2]
theorem stepL_ok {l : List Flt} {i : Nat} (h : pathFault (fk l i).path = 0) (h1 : ¬ (fk l i).code < 1) (h2 : TwoOk l i) : stepL l i = 0 := by unfold stepL; rw [if_neg (by simpa using h), if_neg h1, if_neg (by simpa using h2)]
theorem stepL_zero {l : List Flt} {i : Nat} (h : stepL l i = 0) : pathFault (fk l i).path = 0 ∧ ¬ (fk l i).code < 1 ∧ TwoOk l i := by
  have h0 : pathFault (fk l i).path = 0 := Classical.byContradiction fun e => e ((stepL_path e).symm.trans h)
  have h1 : ¬ (fk l i).code < 1 := fun e => by rw [stepL_code h0 e] at h; cases h
  exact ⟨h0, h1, Classical.byContradiction fun e => by rw [stepL_two h0 h1 e] at h; cases h⟩
theorem fltsFault_all {l : List Flt} (h : fltsFault l = 0) : l.length ≤ 12 ∧ ∀ k, k < l.length → stepL l k = 0 := by
  have hl : l.length ≤ 12 := by
    rcases Nat.lt_or_ge 12 l.length with e | e
    · rw [fltsFault_many e] at h; cases h
    · exact e
  refine ⟨hl, ?_⟩
  have key : ∀ k, k ≤ l.length → ∀ j, j < k → stepL l j = 0 := by
    intro k
    induction k with
    | zero => intro _ j hj; omega
    | succ k ih =>
      intro hk j hj
      by_cases e : j = k
      · subst e
        refine Classical.byContradiction fun hne => ?_
        exact hne ((fltsFault_at hl (by omega) (ih (by omega)) rfl hne).symm.trans h)
      · exact ih (by omega) j (by omega)
  exact key _ (Nat.le_refl _)
theorem zsL_next {l : List Flt} {k : Nat} (hz : ∀ j, j < k → stepL l j = 0) (h : stepL l k = 0) : ∀ j, j < k + 1 → stepL l j = 0 := fun j hj => by
  by_cases e : j = k
  · rw [e]; exact h
  · exact hz j (by omega)
theorem two_iff {l : List Flt} {k : Nat} (hk : k < l.length) : TwoOk l k ↔ ¬ fltFind (l.take k) (fk l k).path < k := by
  have hl : (l.take k).length = k := by rw [List.length_take]; omega
  constructor
  · intro h e
    have := fltFind_lt (l := l.take k) (s := (fk l k).path) (by omega)
    rw [fk_take e] at this
    exact h _ e this
  · intro h j hj
    have := fltFind_ne (l := l.take k) (s := (fk l k).path) (j := j) (by omega)
    rwa [fk_take hj] at this
end Go.Creel
namespace Go.Proofs.YtiiojjhfncefgaaDoor
set_option linter.unusedVariables false
set_option linter.unusedSimpArgs false
open Go.Creel Go.RowKit Go.ChangeShapes
section
variable {H : Type} {enc : TypeId × Value → H} {W : World} {S : DataW H → Prop} {N : Nat}
theorem opens_Fault (hS : Bd H S N) : Opens enc Tryd.prog W S 128 (FltC N) := by
  intro fuel cs x h hx
  have hu := Tryd.underlying128
  have hl := (opens_len hu h).trans (show Tryd.prog.cellsOf 128 = 2 by kernel_rfl)
  obtain ⟨a0, h0⟩ := opens_field hS hu h hx 0 0 1 rfl rfl (by kernel_rfl) (opens_Str hS)
  obtain ⟨a1, h1⟩ := opens_field hS hu h hx 1 1 1 rfl rfl (by kernel_rfl) opens_Int
  obtain ⟨c0, c1, rfl⟩ : ∃ c0 c1, cs = [c0, c1] := by
    match cs, hl with
    | [c0, c1], _ => exact ⟨c0, c1, rfl⟩
  simp [StrC, IntC] at h0 h1
  exact ⟨⟨a0, a1⟩, by rw [h0.1, h1.1], h0.2, h1.2⟩
theorem opens_Faults (hS : Bd H S N) : Opens enc Tryd.prog W S 60 (SliceC N 2 (FltC N)) := opens_slice hS Tryd.underlying60 (by kernel_rfl) (by decide) (opens_Fault hS)
end
theorem flts_below {N : Nat} {w w' : World} {v : Value} {l : List Flt} (h : SliceC N 2 (FltC N) w [v] l) (hb : Below w.heap.size w w') : SliceC N 2 (FltC N) w' [v] l :=
  h.below (fun _ _ h => h) hb
set_option maxRecDepth 100000 in
theorem FltClos_any (x : Flt) (pb : Nat) (s : ByteArray) (w : World) (hc : w.cell? ⟨pb, 0, none⟩ = some (.string s)) (hlt : pb < w.heap.size) :
    Calls Tryd.prog 125 #[x.val, .pointer (some ⟨pb, 0, none⟩)] w fun e w' => e = .returned (.bool (x.path.toList == s.toList)) ∧ Below w.heap.size w w' := by
  have HB := Lib.hid fun o : Obj => (Below.refl w.heap.size w).alloc (Nat.le_refl _) o
  go_enter Tryd.func125, Tryd.ntmps125
  go_wp2
  go_ret
  exact ⟨rfl, HB.out _⟩
set_option maxRecDepth 100000 in
set_option maxHeartbeats 1000000 in
theorem FltIdx_at (b off cap : Nat) (l : List Flt) (pb : Nat) (s : ByteArray) (w : World) (hle : l.length ≤ cap) (hm : cap ≤ maxLen) (hc : FltsAt w b off l) (hp : w.cell? ⟨pb, 0, none⟩ = some (.string s)) (hlt : pb < w.heap.size) :
    Calls Tryd.prog 124 #[.slice (some ⟨b, off, none⟩) l.length cap, .func (.func 125) #[] #[.pointer (some ⟨pb, 0, none⟩)]] w fun e w' => e = .returned (.int .i64 (idxOf (fltFind l s) l.length)) ∧ Below w.heap.size w w' := by
  unfold maxLen at hm
  have HC := Lib.hid hc
  have HP := Lib.hid hp
  have HPL := Lib.hid hlt
  clear hc hp hlt
  go_enter Tryd.func124, Tryd.ntmps124
  go_wp2
  go_loopw [5, 8] (fun _ i wr => ∃ k : Nat, k ≤ l.length ∧ i = .int .i64 k ∧ Hid (∀ j, j < k → (fk l j).path ≠ s) ∧ Hid (Below w.heap.size w wr)) (fun _ i _ => l.length - (intOf i).toNat)
  case atStart => exact ⟨0, by omega, rfl, Lib.hid fun j hj => absurd hj (by omega), Lib.hid (Below.refl _ _)⟩
  case round =>
    obtain ⟨k, hk, rfl, HD, HB⟩ := hrel
    by_cases hlt : k < l.length
    · obtain ⟨h0, h1⟩ := (HC.out.below HB.out) k hlt
      have HFC := Lib.hid (FltClos_any (fk l k) pb s wr ((HB.out.cell (p := ⟨pb, 0, none⟩) HPL.out).trans HP.out) (Nat.lt_of_lt_of_le HPL.out HB.out.size))
      by_cases he : (fk l k).path = s
      · have hb := seq_t he
        have HF := Lib.hid (show idxOf (fltFind l s) l.length = k by rw [fltFind_at hlt HD.out he]; unfold idxOf; rw [if_pos hlt])
        clear he
        go_wp2_with (go_at_call 125; refine HFC.out.mono ?_; rintro e w' ⟨rfl, hb2⟩; have HB2 := Lib.hid (HB.out.trans (hb2.mono HB.out.size)); clear hb2)
        go_ret
        exact ⟨ret_i HF.out, HB2.out⟩
      · have hb := seq_f he
        have HE := Lib.hid he
        clear he
        go_wp2_with (go_at_call 125; refine HFC.out.mono ?_; rintro e w' ⟨rfl, hb2⟩; have HB2 := Lib.hid (HB.out.trans (hb2.mono HB.out.size)); clear hb2)
        go_roundw
        case rel => exact ⟨k + 1, by omega, by go_num, Lib.hid fun j hj => by
          by_cases e : j = k
          · rw [e]; exact HE.out
          · exact HD.out j (by omega), HB2⟩
        case measure => simp [intOf]; omega
    · obtain rfl : k = l.length := by omega
      have HF := Lib.hid (show idxOf (fltFind l s) l.length = -1 by rw [fltFind_no HD.out]; unfold idxOf; rw [if_neg (by omega)])
      go_wp2
      go_ret
      exact ⟨ret_i HF.out, HB.out⟩
set_option maxRecDepth 100000 in
theorem FltIdx_nil (a : Option Addr) (cap : Nat) (f : Value) (w : World) :
    Calls Tryd.prog 124 #[.slice a 0 cap, f] w fun e w' => e = .returned (.int .i64 (-1)) ∧ w = w' := by
  go_enter Tryd.func124, Tryd.ntmps124
  go_wp2
  go_loop [5, 8] (fun _ i => i = .int .i64 0) (fun _ i => 0)
  case atStart => rfl
  case round =>
    obtain rfl := hrel
    go_wp2
    go_ret
    exact ⟨rfl, rfl⟩
set_option maxRecDepth 100000 in
theorem FltIndex_at (b off cap : Nat) (l : List Flt) (s : ByteArray) (w : World) (hle : l.length ≤ cap) (hm : cap ≤ maxLen) (hc : FltsAt w b off l) :
    Calls Tryd.prog 108 #[.slice (some ⟨b, off, none⟩) l.length cap, .string s] w fun e w' => e = .returned (.int .i64 (idxOf (fltFind l s) l.length)) ∧ Below w.heap.size w w' := by
  have hb1 := (Below.refl w.heap.size w).alloc (Nat.le_refl _) (.cells #[.string s] 9)
  have HI := Lib.hid (FltIdx_at b off cap l w.heap.size s (w.alloc (.cells #[.string s] 9)) hle hm (hc.below hb1) (by simp [World.cell?_alloc_new]) (by simp))
  have HB1 := Lib.hid hb1
  clear hc hb1
  unfold maxLen at hm
  generalize idxOf (fltFind l s) l.length = n at *
  go_enter Tryd.func108, Tryd.ntmps108
  go_wp2_with (go_at_call 124; refine HI.out.mono ?_; rintro e w' ⟨rfl, hb2⟩; have HB2 := Lib.hid (HB1.out.trans (hb2.mono HB1.out.size)); clear hb2)
  go_ret
  exact ⟨rfl, HB2.out⟩
set_option maxRecDepth 100000 in
theorem FltIndex_nil (a : Option Addr) (cap : Nat) (s : ByteArray) (w : World) :
    Calls Tryd.prog 108 #[.slice a 0 cap, .string s] w fun e w' => e = .returned (.int .i64 (-1)) ∧ Below w.heap.size w w' := by
  have HB1 := Lib.hid ((Below.refl w.heap.size w).alloc (Nat.le_refl _) (.cells #[.string s] 9))
  go_enter Tryd.func108, Tryd.ntmps108
  go_wp2_with (go_at_call 124; refine (FltIdx_nil _ _ _ _).mono ?_; rintro e w' ⟨rfl, rfl⟩)
  go_ret
  exact ⟨rfl, HB1.out⟩
end Go.Proofs.YtiiojjhfncefgaaDoor
