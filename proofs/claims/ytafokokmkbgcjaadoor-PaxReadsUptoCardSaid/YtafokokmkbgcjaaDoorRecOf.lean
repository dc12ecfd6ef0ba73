/-
  A record read back (P6.3): the plain words.
-/
import Derived.Test.YtafokokmkbgcjaaDoorRecW
import Derived.Test.YtafokokmkbgcjaaDoorCutBy
import Derived.Lib.Atoi
import Derived.Lib.SlTrimSet
namespace Go.Creel
set_option linter.unusedVariables false
set_option linter.unusedSimpArgs false
open Go.RowKit
def valN (s : ByteArray) : Nat → Nat
  | 0 => 0
  | k + 1 => 10 * valN s k + (byt s k - 48)
def IsNum (s : ByteArray) (k : Nat) : Prop := ∀ j, j < k → 48 ≤ byt s j ∧ byt s j ≤ 57
/-- the head: k digits, the first no '0', and a space behind them -/
def RecHead (s : ByteArray) (k : Nat) : Prop := 1 ≤ k ∧ k ≤ 4 ∧ k < s.size ∧ IsNum s k ∧ byt s 0 ≠ 48 ∧ byt s k = 32
theorem RecHead.one {s : ByteArray} {k m : Nat} (h : RecHead s k) (g : RecHead s m) : k = m := by
  obtain ⟨_, _, _, h4, _, h6⟩ := h
  obtain ⟨_, _, _, g4, _, g6⟩ := g
  rcases Nat.lt_trichotomy k m with e | e | e
  · have := g4 k e; omega
  · exact e
  · have := h4 m e; omega
theorem valN_le {s : ByteArray} {k : Nat} (h : IsNum s k) : valN s k < 10 ^ k := by
  induction k with
  | zero => simp [valN]
  | succ k ih =>
    have h1 := ih (fun j hj => h j (by omega))
    have h2 := h k (by omega)
    simp only [valN, Nat.pow_succ]
    omega
def recNo (e : Int) : Rec × ByteArray × Int := (⟨ByteArray.empty, ByteArray.empty⟩, ByteArray.empty, e)
def recAt (s : ByteArray) (k n i : Nat) : Rec × ByteArray × Int :=
  if recFault ⟨s.extract (k + 1) i, s.extract (i + 1) (n - 1)⟩ ≠ 0 then recNo (recFault ⟨s.extract (k + 1) i, s.extract (i + 1) (n - 1)⟩)
  else if recText ⟨s.extract (k + 1) i, s.extract (i + 1) (n - 1)⟩ = s.extract 0 n then (⟨s.extract (k + 1) i, s.extract (i + 1) (n - 1)⟩, s.extract n s.size, 0) else recNo 3
/-- what comes of a text -/
def RecRes (s : ByteArray) (x : Rec × ByteArray × Int) : Prop :=
  ((¬ ∃ k, RecHead s k) ∧ x = recNo 3) ∨ ∃ k, RecHead s k ∧
    ((s.size < valN s k ∧ x = recNo 7) ∨
      (valN s k ≤ s.size ∧ (valN s k < k + 2 ∨ byt s (valN s k - 1) ≠ 10) ∧ x = recNo 3) ∨
      (valN s k ≤ s.size ∧ k + 2 ≤ valN s k ∧ byt s (valN s k - 1) = 10 ∧ (∀ j, k + 1 ≤ j → j < valN s k - 1 → byt s j ≠ 61) ∧ x = recNo 3) ∨
      (valN s k ≤ s.size ∧ k + 2 ≤ valN s k ∧ byt s (valN s k - 1) = 10 ∧ ∃ i, AtByte s 61 (k + 1) (valN s k - 1) i ∧ x = recAt s k (valN s k) i))
theorem RecRes.one {s : ByteArray} {x y : Rec × ByteArray × Int} (h : RecRes s x) (g : RecRes s y) : x = y := by
  rcases h with ⟨hn, rfl⟩ | ⟨k, hk, h⟩
  · rcases g with ⟨_, rfl⟩ | ⟨m, hm, _⟩
    · rfl
    · exact absurd ⟨m, hm⟩ hn
  · rcases g with ⟨gn, _⟩ | ⟨m, hm, g⟩
    · exact absurd ⟨k, hk⟩ gn
    · obtain rfl := hk.one hm
      rcases h with ⟨h1, rfl⟩ | ⟨h1, h2, rfl⟩ | ⟨h1, h2, h3, h4, rfl⟩ | ⟨h1, h2, h3, i, h4, rfl⟩
      · rcases g with ⟨g1, rfl⟩ | ⟨g1, g2, rfl⟩ | ⟨g1, g2, g3, g4, rfl⟩ | ⟨g1, g2, g3, i, g4, rfl⟩
        · rfl
        · omega
        · omega
        · omega
      · rcases g with ⟨g1, rfl⟩ | ⟨g1, g2, rfl⟩ | ⟨g1, g2, g3, g4, rfl⟩ | ⟨g1, g2, g3, i, g4, rfl⟩
        · omega
        · rfl
        · rfl
        · rcases h2 with h2 | h2
          · omega
          · exact absurd g3 h2
      · rcases g with ⟨g1, rfl⟩ | ⟨g1, g2, rfl⟩ | ⟨g1, g2, g3, g4, rfl⟩ | ⟨g1, g2, g3, i, g4, rfl⟩
        · omega
        · rfl
        · rfl
        · exact absurd g4.2.2.1 (h4 i g4.1 g4.2.1)
      · rcases g with ⟨g1, rfl⟩ | ⟨g1, g2, rfl⟩ | ⟨g1, g2, g3, g4, rfl⟩ | ⟨g1, g2, g3, i', g4, rfl⟩
        · omega
        · rcases g2 with g2 | g2
          · omega
          · exact absurd h3 g2
        · exact absurd h4.2.2.1 (g4 i h4.1 h4.2.1)
        · rw [h4.one g4]
open Classical in
noncomputable def recOf (s : ByteArray) : Rec × ByteArray × Int := if h : ∃ x, RecRes s x then Classical.choose h else recNo 3
theorem recOf_is {s : ByteArray} {x : Rec × ByteArray × Int} (h : RecRes s x) : recOf s = x := by
  have hex : ∃ x, RecRes s x := ⟨x, h⟩
  unfold recOf
  rw [dif_pos hex]
  exact (Classical.choose_spec hex).one h
theorem recOf_head {s : ByteArray} (h : ¬ ∃ k, RecHead s k) : recOf s = recNo 3 := recOf_is (.inl ⟨h, rfl⟩)
theorem recOf_short {s : ByteArray} {k : Nat} (h : RecHead s k) (h1 : s.size < valN s k) : recOf s = recNo 7 := recOf_is (.inr ⟨k, h, .inl ⟨h1, rfl⟩⟩)
theorem recOf_end {s : ByteArray} {k : Nat} (h : RecHead s k) (h1 : valN s k ≤ s.size) (h2 : valN s k < k + 2 ∨ byt s (valN s k - 1) ≠ 10) : recOf s = recNo 3 := recOf_is (.inr ⟨k, h, .inr (.inl ⟨h1, h2, rfl⟩)⟩)
theorem recOf_none {s : ByteArray} {k : Nat} (h : RecHead s k) (h1 : valN s k ≤ s.size) (h2 : k + 2 ≤ valN s k) (h3 : byt s (valN s k - 1) = 10) (h4 : ∀ j, k + 1 ≤ j → j < valN s k - 1 → byt s j ≠ 61) : recOf s = recNo 3 :=
  recOf_is (.inr ⟨k, h, .inr (.inr (.inl ⟨h1, h2, h3, h4, rfl⟩))⟩)
theorem recOf_at {s : ByteArray} {k i : Nat} (h : RecHead s k) (h1 : valN s k ≤ s.size) (h2 : k + 2 ≤ valN s k) (h3 : byt s (valN s k - 1) = 10) (h4 : AtByte s 61 (k + 1) (valN s k - 1) i) : recOf s = recAt s k (valN s k) i :=
  recOf_is (.inr ⟨k, h, .inr (.inr (.inr ⟨h1, h2, h3, i, h4, rfl⟩))⟩)
theorem recAt_bad {s : ByteArray} {k n i : Nat} {f : Int} (h : recFault ⟨s.extract (k + 1) i, s.extract (i + 1) (n - 1)⟩ = f) (hf : f ≠ 0) : recAt s k n i = recNo f := by unfold recAt; rw [if_pos (by rw [h]; exact hf), h]
theorem recAt_odd {s : ByteArray} {k n i : Nat} (h : recFault ⟨s.extract (k + 1) i, s.extract (i + 1) (n - 1)⟩ = 0) (h2 : recText ⟨s.extract (k + 1) i, s.extract (i + 1) (n - 1)⟩ ≠ s.extract 0 n) : recAt s k n i = recNo 3 := by unfold recAt; rw [if_neg (by rw [h]; simp), if_neg h2]
theorem recAt_ok {s : ByteArray} {k n i : Nat} (h : recFault ⟨s.extract (k + 1) i, s.extract (i + 1) (n - 1)⟩ = 0) (h2 : recText ⟨s.extract (k + 1) i, s.extract (i + 1) (n - 1)⟩ = s.extract 0 n) : recAt s k n i = (⟨s.extract (k + 1) i, s.extract (i + 1) (n - 1)⟩, s.extract n s.size, 0) := by unfold recAt; rw [if_neg (by rw [h]; simp), if_pos h2]
/-! ### The library's words -/
def digs : List UInt8 := [48, 49, 50, 51, 52, 53, 54, 55, 56, 57]
theorem digs_has (x : UInt8) : digs.contains x = true ↔ 48 ≤ x.toNat ∧ x.toNat ≤ 57 := by
  rw [List.contains_iff_mem]
  unfold digs
  simp only [List.mem_cons, List.not_mem_nil, or_false, ← UInt8.toNat_inj, UInt8.reduceToNat]
  omega
theorem mem_dropWhile {p : UInt8 → Bool} {l : List UInt8} {x : UInt8} (hx : x ∈ l) (hp : p x = false) : x ∈ l.dropWhile p := by
  induction l with
  | nil => cases hx
  | cons a l ih =>
    by_cases ha : p a = true
    · rw [List.dropWhile_cons_of_pos ha]
      rcases List.mem_cons.1 hx with e | e
      · rw [e, ha] at hp; cases hp
      · exact ih e
    · rw [List.dropWhile_cons_of_neg ha]; exact hx
theorem trim_digs (l : List UInt8) : (Lib.trimS l digs = []) ↔ ∀ x ∈ l, 48 ≤ x.toNat ∧ x.toNat ≤ 57 := by
  constructor
  · intro h x hx
    cases hc : digs.contains x with
    | true => exact (digs_has x).1 hc
    | false =>
      have h1 : x ∈ Lib.trimRightS l digs := by
        unfold Lib.trimRightS
        rw [List.mem_reverse]
        exact mem_dropWhile (by simpa using hx) hc
      have h2 : x ∈ Lib.trimS l digs := mem_dropWhile h1 hc
      rw [h] at h2; cases h2
  · intro h
    have hall : ∀ m : List UInt8, (∀ x ∈ m, digs.contains x = true) → m.dropWhile (digs.contains ·) = [] := by
      intro m
      induction m with
      | nil => intro _; rfl
      | cons a m ih =>
        intro hm
        rw [List.dropWhile_cons_of_pos (hm a (by simp))]
        exact ih (fun x hx => hm x (by simp [hx]))
    unfold Lib.trimS Lib.trimRightS Lib.trimLeftS
    rw [hall l.reverse (fun x hx => (digs_has x).2 (h x (by simpa using hx)))]
    rfl
theorem byt_list {s : ByteArray} {j : Nat} (h : j < s.size) : ∃ b, s.data.toList[j]? = some b ∧ b.toNat = byt s j := by
  have h1 : j < s.data.toList.length := by simpa using h
  refine ⟨s.data.toList[j], List.getElem?_eq_getElem h1, ?_⟩
  unfold byt
  rw [List.getD_eq_getElem?_getD, List.getElem?_eq_getElem h1]; rfl
theorem take_bytes {s : ByteArray} {k : Nat} (h : k ≤ s.size) : (s.extract 0 k).data.toList = s.data.toList.take k := by
  rw [Lib.extract_data, List.drop_zero, Nat.sub_zero]
theorem num_iff {s : ByteArray} {k : Nat} (h : k ≤ s.size) : (∀ x ∈ (s.extract 0 k).data.toList, 48 ≤ x.toNat ∧ x.toNat ≤ 57) ↔ IsNum s k := by
  rw [take_bytes h]
  constructor
  · intro hx j hj
    obtain ⟨b, hb, e⟩ := byt_list (s := s) (j := j) (by omega)
    rw [← e]
    exact hx b (List.mem_of_getElem? (i := j) (by rw [List.getElem?_take, if_pos hj]; exact hb))
  · intro hn x hx
    obtain ⟨j, hj, rfl⟩ := List.getElem_of_mem hx
    have hj' : j < k := by rw [List.length_take] at hj; omega
    obtain ⟨b, hb, e⟩ := byt_list (s := s) (j := j) (by omega)
    rw [List.getElem_take]
    have : s.data.toList[j]'(by rw [List.length_take] at hj; omega) = b := by
      rw [List.getElem?_eq_getElem (by rw [List.length_take] at hj; omega)] at hb
      exact Option.some.inj hb
    rw [this, e]
    exact hn j hj'
theorem decFrom_num {s : ByteArray} : ∀ {k : Nat}, k ≤ s.size → IsNum s k → Lib.decFrom 0 (s.data.toList.take k) = some (valN s k)
  | 0, _, _ => rfl
  | k + 1, h, hn => by
    have ih := decFrom_num (k := k) (by omega) (fun j hj => hn j (by omega))
    obtain ⟨b, hb, e⟩ := byt_list (s := s) (j := k) (by omega)
    have hd := hn k (by omega)
    have := Lib.decFrom_take s.data.toList k 0 (valN s k) b (byt s k - 48) ih hb (by unfold Lib.digitVal; rw [e, if_pos hd])
    rw [this]
    simp only [valN]
    congr 1
    omega
theorem atoi_num {s : ByteArray} {k : Nat} (h1 : 1 ≤ k) (h : k ≤ s.size) (hn : IsNum s k) : Lib.atoi (s.extract 0 k).data.toList = some (valN s k : Int) := by
  rw [take_bytes h]
  have hd := decFrom_num h hn
  obtain ⟨b, hb, e⟩ := byt_list (s := s) (j := 0) (by omega)
  have h0 := hn 0 (by omega)
  obtain ⟨r, hr⟩ : ∃ r, s.data.toList.take k = b :: r := by
    cases hl : s.data.toList with
    | nil => rw [hl] at hb; cases hb
    | cons a t =>
      rw [hl] at hb
      obtain rfl : a = b := by simpa using hb
      obtain ⟨m, rfl⟩ : ∃ m, k = m + 1 := ⟨k - 1, by omega⟩
      exact ⟨t.take m, by rw [List.take_succ_cons]⟩
  rw [hr] at hd ⊢
  have hb1 : (b == 45) = false := by
    rw [beq_eq_false_iff_ne]; intro e2; rw [e2] at e; have : (45 : UInt8).toNat = 45 := rfl; omega
  have hb2 : (b == 43) = false := by
    rw [beq_eq_false_iff_ne]; intro e2; rw [e2] at e; have : (43 : UInt8).toNat = 43 := rfl; omega
  unfold Lib.atoi
  simp only [hb1, hb2, Bool.false_eq_true, if_false]
  unfold Lib.decNat
  simp [hd]
/-! ### Parts of parts -/
theorem ext_ext {s : ByteArray} {a b i j : Nat} (hj : a + j ≤ b) : (s.extract a b).extract i j = s.extract (a + i) (a + j) := by
  apply ext_bytes
  rw [Lib.extract_data, Lib.extract_data, Lib.extract_data, List.drop_take, List.drop_drop, List.take_take]
  congr 1
  omega
theorem byt_part {s : ByteArray} {a b j : Nat} (hb : b ≤ s.size) (hj : a + j < b) : byt (s.extract a b) j = byt s (a + j) := by
  unfold byt
  rw [Lib.extract_data, List.getD_eq_getElem?_getD, List.getD_eq_getElem?_getD, List.getElem?_take, if_pos (by omega), List.getElem?_drop]
end Go.Creel
