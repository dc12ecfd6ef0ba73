/-
  Blocks read as heads: the plain words and law.
-/
import Derived.Test.YtiiojjhfncefgabDoorFieldRead
import Derived.Test.YtiiojjhfncefgabDoorOctalRead
import Derived.Test.YtiiojjhfncefgabDoorOctal
import Derived.Test.YtiiojjhfncefgabDoorHeadSum
import Derived.Test.YtiiojjhfncefgabDoorHeadN
namespace Go.Creel
set_option linter.unusedVariables false
set_option linter.unusedSimpArgs false
theorem list7 {l : List UInt8} (h : l.length = 7) : ∃ a b c d e f g, l = [a, b, c, d, e, f, g] := by
  match l, h with
  | [a, b, c, d, e, f, g], _ => exact ⟨a, b, c, d, e, f, g, rfl⟩
theorem digs6 (n : Nat) : digs 6 n = [UInt8.ofNat (48 + n / 32768 % 8), UInt8.ofNat (48 + n / 4096 % 8), UInt8.ofNat (48 + n / 512 % 8), UInt8.ofNat (48 + n / 64 % 8), UInt8.ofNat (48 + n / 8 % 8), UInt8.ofNat (48 + n % 8)] := by
  simp [digs]
theorem u8_of {a : UInt8} {n : Nat} (h : n = a.toNat) : UInt8.ofNat n = a := by
  subst h; exact UInt8.toNat_inj.1 (by simp)
theorem u8_nat {n : Nat} (h : n < 256) : (UInt8.ofNat n).toNat = n := by simp; omega
theorem byt_ofL (l : List UInt8) (k : Nat) : byt (ofL l) k = bl l k := by unfold byt bl; rw [ofL_data]
/-- six digits and a byte 0, and their number -/
theorem oct7 {x : ByteArray} (hx : x.size = 7) {n : Nat} (hn : n < 262144) : octOf x = ((n : Int), 0) ↔ x = ofL (digs 6 n ++ [0]) := by
  obtain ⟨a, b, c, d, e, f, g, hl⟩ := list7 ((Lib.size_eq x).symm.trans hx)
  have h0 : byt x 0 = a.toNat := by unfold byt; rw [hl]; rfl
  have h1 : byt x 1 = b.toNat := by unfold byt; rw [hl]; rfl
  have h2 : byt x 2 = c.toNat := by unfold byt; rw [hl]; rfl
  have h3 : byt x 3 = d.toNat := by unfold byt; rw [hl]; rfl
  have h4 : byt x 4 = e.toNat := by unfold byt; rw [hl]; rfl
  have h5 : byt x 5 = f.toNat := by unfold byt; rw [hl]; rfl
  have h6 : byt x 6 = g.toNat := by unfold byt; rw [hl]; rfl
  have hv : oval x 6 = 8 * (8 * (8 * (8 * (8 * (byt x 0 - 48) + (byt x 1 - 48)) + (byt x 2 - 48)) + (byt x 3 - 48)) + (byt x 4 - 48)) + (byt x 5 - 48) := by simp [oval]
  constructor
  · intro h
    have hd : (∀ k, k < 6 → odig x k) ∧ byt x 6 = 0 := by
      unfold octOf at h
      rw [if_pos (by omega), hx] at h
      refine Classical.byContradiction fun hc => ?_
      rw [if_neg hc] at h
      simp at h
    have ho := octOf_yes (s := x) (by omega) (by omega) (by rw [hx]; exact hd.1) (by rw [hx]; exact hd.2)
    rw [h, hx] at ho
    simp only [Prod.mk.injEq, and_true, show (7 : Nat) - 1 = 6 from rfl] at ho
    have hon : n = oval x 6 := by omega
    obtain ⟨p0, q0⟩ := hd.1 0 (by omega)
    obtain ⟨p1, q1⟩ := hd.1 1 (by omega)
    obtain ⟨p2, q2⟩ := hd.1 2 (by omega)
    obtain ⟨p3, q3⟩ := hd.1 3 (by omega)
    obtain ⟨p4, q4⟩ := hd.1 4 (by omega)
    obtain ⟨p5, q5⟩ := hd.1 5 (by omega)
    have hg : g = 0 := UInt8.toNat_inj.1 (by rw [← h6, hd.2]; rfl)
    rw [hv] at hon
    apply ext_bytes
    rw [hl, ofL_data, digs6, hg]
    simp only [List.cons_append, List.nil_append, List.cons.injEq, and_true]
    refine ⟨(u8_of ?_).symm, (u8_of ?_).symm, (u8_of ?_).symm, (u8_of ?_).symm, (u8_of ?_).symm, (u8_of ?_).symm⟩ <;> omega
  · intro h
    have hl2 : [a, b, c, d, e, f, g] = digs 6 n ++ [0] := by
      rw [← hl, h, ofL_data]
    rw [digs6] at hl2
    simp only [List.cons_append, List.nil_append, List.cons.injEq, and_true] at hl2
    obtain ⟨rfl, rfl, rfl, rfl, rfl, rfl, rfl⟩ := hl2
    rw [u8_nat (by omega)] at h0 h1 h2 h3 h4 h5
    have hd : ∀ k, k < 6 → odig x k := by
      intro k hk
      unfold odig
      match k, hk with
      | 0, _ => omega
      | 1, _ => omega
      | 2, _ => omega
      | 3, _ => omega
      | 4, _ => omega
      | 5, _ => omega
    rw [octOf_yes (s := x) (by omega) (by omega) (by rw [hx]; exact hd) (by rw [hx]; exact h6), hx]
    simp only [Prod.mk.injEq, and_true, show (7 : Nat) - 1 = 6 from rfl]
    omega
theorem extract_two (s : ByteArray) (a b c : Nat) (h1 : a ≤ b) (h2 : b ≤ c) : s.extract a c = s.extract a b ++ s.extract b c := by
  apply ext_bytes
  rw [ByteArray.data_append, Array.toList_append, Lib.extract_data, Lib.extract_data, Lib.extract_data]
  have e : c - a = (b - a) + (c - b) := by omega
  rw [e, List.take_add]
  congr 2
  rw [List.drop_drop]
  congr 1
  omega
theorem extract_one (s : ByteArray) (k : Nat) (h : k < s.size) : s.extract k (k + 1) = ofL [s[k]] := by
  apply ext_bytes
  rw [Lib.extract_data, ofL_data]
  have e : k + 1 - k = 1 := by omega
  rw [e, List.drop_eq_getElem_cons (by simpa using h)]
  simp
  rfl
theorem append_cut {a b c d : ByteArray} (h : a.size = c.size) : a ++ b = c ++ d ↔ a = c ∧ b = d := by
  constructor
  · intro e
    have e1 : a.data.toList ++ b.data.toList = c.data.toList ++ d.data.toList := by
      rw [← Array.toList_append, ← Array.toList_append, ← ByteArray.data_append, ← ByteArray.data_append, e]
    have hl : a.data.toList.length = c.data.toList.length := by rw [← Lib.size_eq, ← Lib.size_eq]; exact h
    obtain ⟨h1, h2⟩ := List.append_inj e1 hl
    exact ⟨ext_bytes h1, ext_bytes h2⟩
  · rintro ⟨rfl, rfl⟩; rfl
/-- is the sum in a block its own? -/
noncomputable def sumOk (s : ByteArray) : Bool := decide ((octOf (s.extract 148 155)).2 = 0) && decide ((octOf (s.extract 148 155)).1 = (headSum s).1) && decide (byt s 155 = 32)
theorem sumOk_ref {s : ByteArray} (h : s.size = 512) : (s.extract 148 156 = (octText (headSum s).1 7).1 ++ ofL [32]) ↔ sumOk s = true := by
  have hb := headSum_bd h
  obtain ⟨n, hn⟩ : ∃ n : Nat, (headSum s).1 = n := ⟨(headSum s).1.toNat, by omega⟩
  have hsz : (s.extract 148 155).size = 7 := by simp; omega
  have ht : (octText (headSum s).1 7).1 = ofL (digs 6 n ++ [0]) := by
    rw [hn]
    have e1 : ((7 : Int) - 1).toNat = 6 := rfl
    unfold octText
    rw [if_pos (by omega), e1, if_pos (by omega)]
    rfl
  rw [ht, extract_two s 148 155 156 (by omega) (by omega), extract_one s 155 (by omega), append_cut (by rw [hsz, ofL_size]; simp [digs_length]), ← oct7 hsz (by omega)]
  have e2 : (ofL [s[155]] = ofL [32]) ↔ byt s 155 = 32 := by
    rw [← byt_get s 155 (by omega)]
    constructor
    · intro e
      have : (ofL [s[155]]).data.toList = (ofL [32]).data.toList := by rw [e]
      rw [ofL_data, ofL_data] at this
      simp only [List.cons.injEq, and_true] at this
      rw [this]; rfl
    · intro e
      have : s[155] = 32 := UInt8.toNat_inj.1 (by rw [e]; rfl)
      rw [this]
  rw [e2]
  unfold sumOk
  simp only [Bool.and_eq_true, decide_eq_true_eq]
  rw [hn]
  constructor
  · rintro ⟨h1, h2⟩
    rw [h1]
    exact ⟨⟨rfl, rfl⟩, h2⟩
  · rintro ⟨⟨h1, h2⟩, h3⟩
    exact ⟨Prod.ext h2 h1, h3⟩
/-- the first fault of all -/
def note (e f : Int) : Int := if e = 0 then f else e
theorem note_ok {e f : Int} (h : e = 0) : note e f = f := if_pos h
theorem note_bad {e f : Int} (h : ¬ e = 0) : note e f = e := if_neg h
def zero8 : List UInt8 := [48, 48, 48, 48, 48, 48, 48, 0]
def justE (s : ByteArray) (a b : Nat) (t : ByteArray) : Int := if s.extract a b = t then 0 else 3
def typeE (s : ByteArray) : Int := if hasB (ofL [48, 49, 50, 53, 120]) (s.data.toList.getD 156 0) = true then 0 else 3
noncomputable def headFaults (s : ByteArray) : List Int :=
  [(fieldOf (s.extract 0 100) true).2, (octOf (s.extract 100 108)).2, (octOf (s.extract 108 116)).2, (octOf (s.extract 116 124)).2, (octOf (s.extract 124 136)).2, (octOf (s.extract 136 148)).2, typeE s, (fieldOf (s.extract 157 257) true).2,
    justE s 257 265 (ofL [117, 115, 116, 97, 114, 0, 48, 48]), (fieldOf (s.extract 265 297) false).2, (fieldOf (s.extract 297 329) false).2, justE s 329 345 (ofL (zero8 ++ zero8)), (fieldOf (s.extract 345 500) true).2, justE s 500 512 (zerosS 12)]
noncomputable def headWorst (s : ByteArray) : Int := (headFaults s).foldl note 0
noncomputable def headFields (s : ByteArray) : HeadN :=
  ⟨(fieldOf (s.extract 0 100) true).1, (fieldOf (s.extract 345 500) true).1, (fieldOf (s.extract 157 257) true).1, (octOf (s.extract 100 108)).1, (octOf (s.extract 108 116)).1, (octOf (s.extract 116 124)).1, (octOf (s.extract 124 136)).1, (octOf (s.extract 136 148)).1, s.data.toList.getD 156 0, (fieldOf (s.extract 265 297) false).1, (fieldOf (s.extract 297 329) false).1⟩
def headNone : HeadN := ⟨ByteArray.empty, ByteArray.empty, ByteArray.empty, 0, 0, 0, 0, 0, 0, ByteArray.empty, ByteArray.empty⟩
noncomputable def headOf (s : ByteArray) : HeadN × Int :=
  if ¬ s.size = 512 then (headNone, 1) else if sumOk s = false then (headNone, 8) else if ¬ headWorst s = 0 then (headNone, headWorst s) else (headFields s, 0)
end Go.Creel
