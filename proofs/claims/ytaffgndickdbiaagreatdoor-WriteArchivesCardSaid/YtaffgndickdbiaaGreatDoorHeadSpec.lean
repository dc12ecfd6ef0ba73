/-
  Heads as blocks: the plain words and law.
-/
import Derived.Test.YtaffgndickdbiaaGreatDoorField
import Derived.Test.YtaffgndickdbiaaGreatDoorOctal
import Derived.Test.YtaffgndickdbiaaGreatDoorHeadSum
import Derived.Test.YtaffgndickdbiaaGreatDoorHeadN

namespace Go.Creel
set_option linter.unusedVariables false
set_option linter.unusedSimpArgs false
open Go.RowKit
theorem fieldText_le (s : ByteArray) (width : Int) (whole : Bool) : (fieldText s width whole).1.size ≤ 512 := by
  unfold fieldText
  split
  · simp
  · split
    · simp
    · split
      · simp
      · simp only [ByteArray.size_append, zerosS_size]
        omega
theorem fieldText_size (s : ByteArray) (width : Int) (k : Nat) (hk : width = k) (whole : Bool) (h : (fieldText s width whole).2 = 0) : (fieldText s width whole).1.size = k := by
  subst hk
  unfold fieldText at h ⊢
  split
  · rename_i h1; rw [if_pos h1] at h; cases h
  · rename_i h1
    rw [if_neg h1] at h
    split
    · rename_i h2; rw [if_pos h2] at h; cases h
    · rename_i h2
      rw [if_neg h2] at h
      split
      · rename_i h3; rw [if_pos h3] at h; cases h
      · simp only [ByteArray.size_append, zerosS_size]
        omega
theorem octText_le (n width : Int) : (octText n width).1.size ≤ 512 := by
  unfold octText
  split
  · split
    · rw [ofL_size]; simp [digs_length]; omega
    · simp
  · simp
theorem octText_size (n : Int) (width : Int) (k : Nat) (hk : width = k) (h : (octText n width).2 = 0) : (octText n width).1.size = k := by
  subst hk
  unfold octText at h ⊢
  split
  · rename_i h1
    rw [if_pos h1] at h
    split
    · rw [ofL_size]; simp [digs_length]; omega
    · rename_i h2; rw [if_neg h2] at h; cases h
  · rename_i h1; rw [if_neg h1] at h; cases h
abbrev Pen := ByteArray × Int
def penPut (p x : Pen) : Pen := if p.2 = 0 then (p.1 ++ x.1, x.2) else p
def refPut (p x : Pen) : Pen := (p.1 ++ x.1, if p.2 = 0 then x.2 else p.2)
theorem penPut_ok {p x : Pen} (h : p.2 = 0) : penPut p x = (p.1 ++ x.1, x.2) := if_pos h
theorem penPut_bad {p x : Pen} (h : ¬ p.2 = 0) : penPut p x = p := if_neg h
def penAll (l : List Pen) : Pen := l.foldl penPut (ByteArray.empty, 0)
def refAll (l : List Pen) : Pen := l.foldl refPut (ByteArray.empty, 0)
/-- alike: the same fault; the same bytes where there is none -/
def PenLike (p q : Pen) : Prop := p.2 = q.2 ∧ (p.2 = 0 → p.1 = q.1)
theorem PenLike.put {p q : Pen} (h : PenLike p q) (x : Pen) : PenLike (penPut p x) (refPut q x) := by
  obtain ⟨h1, h2⟩ := h
  by_cases h0 : p.2 = 0
  · rw [penPut_ok h0]
    have h3 := h2 h0
    unfold refPut PenLike
    rw [if_pos (by rw [← h1]; exact h0), h3]
    exact ⟨rfl, fun _ => rfl⟩
  · rw [penPut_bad h0]
    unfold refPut PenLike
    rw [if_neg (by rw [← h1]; exact h0)]
    exact ⟨h1, fun h => absurd h h0⟩
theorem PenLike.puts {p q : Pen} (h : PenLike p q) (l : List Pen) : PenLike (l.foldl penPut p) (l.foldl refPut q) := by
  induction l generalizing p q with
  | nil => exact h
  | cons x l ih => exact ih (h.put x)
theorem pen_ref (l : List Pen) : PenLike (penAll l) (refAll l) := PenLike.puts ⟨rfl, fun _ => rfl⟩ l
theorem penPut_size (p x : Pen) : (penPut p x).1.size ≤ p.1.size + x.1.size := by
  unfold penPut
  split
  · simp
  · omega
theorem penPut_le {p x : Pen} {n : Nat} (h : p.1.size ≤ n) (hx : x.1.size ≤ 512) : (penPut p x).1.size ≤ n + 512 := Nat.le_trans (penPut_size p x) (by omega)
theorem refPut_le {p x : Pen} {n : Nat} (h : p.1.size ≤ n) (hx : x.1.size ≤ 512) : (refPut p x).1.size ≤ n + 512 := by
  unfold refPut
  simp only [ByteArray.size_append]
  omega
theorem refPut_size {p x : Pen} {n k : Nat} (h : p.2 = 0 → p.1.size = n) (hx : x.2 = 0 → x.1.size = k) : (refPut p x).2 = 0 → (refPut p x).1.size = n + k := by
  unfold refPut
  intro h0
  simp only [ByteArray.size_append]
  by_cases hp : p.2 = 0
  · rw [if_pos hp] at h0
    rw [h hp, hx h0]
  · rw [if_neg hp] at h0
    exact absurd h0 hp
def eightB : List UInt8 := [32, 32, 32, 32, 32, 32, 32, 32]
def ustarB : List UInt8 := [117, 115, 116, 97, 114, 0, 48, 48]
def zero8B : List UInt8 := [48, 48, 48, 48, 48, 48, 48, 0]
def pNum (n : HeadN) : List Pen := [fieldText n.nm 100 true, octText n.mode 8, octText n.uid 8, octText n.gid 8, octText n.size 12, octText n.time 12]
def pRest (n : HeadN) : List Pen := [(ofL (eightB ++ [n.typ]), 0), fieldText n.lk 100 true, (ofL ustarB, 0), fieldText n.user 32 false, fieldText n.group 32 false]
def pEnd (n : HeadN) : List Pen := [fieldText n.px 155 true, (zerosS 12, 0)]
def headPen (n : HeadN) : Pen := penAll (pNum n ++ pRest n ++ [(ofL (zero8B ++ zero8B), 0)] ++ pEnd n)
def headRef (n : HeadN) : Pen := refAll (pNum n ++ pRest n ++ [(ofL zero8B, 0), (ofL zero8B, 0)] ++ pEnd n)
theorem refPut_two (p : Pen) (a b : ByteArray) : refPut (refPut p (a, 0)) (b, 0) = refPut p (a ++ b, 0) := by
  unfold refPut
  simp only [ByteArray.append_assoc]
  by_cases h : p.2 = 0
  · simp [h]
  · simp [h]
theorem ofL_two (a b : List UInt8) : ofL a ++ ofL b = ofL (a ++ b) := ofL_append a b
theorem head_like (n : HeadN) : PenLike (headPen n) (headRef n) := by
  have h := pen_ref (pNum n ++ pRest n ++ [(ofL (zero8B ++ zero8B), 0)] ++ pEnd n)
  have e : headRef n = refAll (pNum n ++ pRest n ++ [(ofL (zero8B ++ zero8B), 0)] ++ pEnd n) := by
    unfold headRef refAll
    simp only [List.foldl_append, List.foldl_cons, List.foldl_nil]
    rw [refPut_two, ofL_two]
  rw [e]
  exact h
theorem head_size (n : HeadN) : (headRef n).2 = 0 → (headRef n).1.size = 512 := by
  unfold headRef refAll pNum pRest pEnd
  simp only [List.foldl_append, List.foldl_cons, List.foldl_nil]
  have h0 : ((ByteArray.empty, 0) : Pen).2 = 0 → ((ByteArray.empty, 0) : Pen).1.size = 0 := fun _ => rfl
  have h1 := refPut_size h0 (fieldText_size n.nm 100 100 rfl true)
  have h2 := refPut_size h1 (octText_size n.mode 8 8 rfl)
  have h3 := refPut_size h2 (octText_size n.uid 8 8 rfl)
  have h4 := refPut_size h3 (octText_size n.gid 8 8 rfl)
  have h5 := refPut_size h4 (octText_size n.size 12 12 rfl)
  have h6 := refPut_size h5 (octText_size n.time 12 12 rfl)
  have h7 := refPut_size h6 (x := (ofL (eightB ++ [n.typ]), 0)) (k := 9) (fun _ => by rw [ofL_size]; rfl)
  have h8 := refPut_size h7 (fieldText_size n.lk 100 100 rfl true)
  have h9 := refPut_size h8 (x := (ofL ustarB, 0)) (k := 8) (fun _ => by rw [ofL_size]; rfl)
  have h10 := refPut_size h9 (fieldText_size n.user 32 32 rfl false)
  have h11 := refPut_size h10 (fieldText_size n.group 32 32 rfl false)
  have h12 := refPut_size h11 (x := (ofL zero8B, 0)) (k := 8) (fun _ => by rw [ofL_size]; rfl)
  have h13 := refPut_size h12 (x := (ofL zero8B, 0)) (k := 8) (fun _ => by rw [ofL_size]; rfl)
  have h14 := refPut_size h13 (fieldText_size n.px 155 155 rfl true)
  exact refPut_size h14 (x := (zerosS 12, 0)) (k := 12) (fun _ => by rw [zerosS_size])
/-- the block, its sum written in -/
def sumIn (s : ByteArray) : ByteArray := s.extract 0 148 ++ (octText (headSum s).1 7).1 ++ ofL [32] ++ s.extract 156 s.size
def headTypes : ByteArray := ofL [48, 49, 50, 53, 120]
/-- head.Write's answer -/
def headText (n : HeadN) : ByteArray × Int :=
  if hasB headTypes n.typ = false then (ByteArray.empty, 2)
  else if ¬ (headRef n).2 = 0 then (ByteArray.empty, (headRef n).2) else (sumIn (headRef n).1, 0)
end Go.Creel
