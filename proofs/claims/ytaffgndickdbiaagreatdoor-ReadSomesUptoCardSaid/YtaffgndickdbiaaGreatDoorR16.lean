/-
  Texts: RecOf, RecBox, PaxOf, PaxFind.
-/
import Derived.Test.YtaffgndickdbiaaGreatDoorR15
import Derived.Lib.Atoi
import Derived.Lib.SlTrimSet
import Derived.Laws.ResultCell
set_option linter.unusedVariables false
set_option linter.unusedSimpArgs false
set_option linter.unusedSectionVars false
namespace Go.Creel
open Go.RowKit
def valN (s : ByteArray) : Nat → Nat
  | 0 => 0
  | k + 1 => 10 * valN s k + (byt s k - 48)
def IsNum (s : ByteArray) (k : Nat) : Prop := ∀ j, j < k → 48 ≤ byt s j ∧ byt s j ≤ 57
def RecHead (s : ByteArray) (k : Nat) : Prop := 1 ≤ k ∧ k ≤ 4 ∧ k < s.size ∧ IsNum s k ∧ byt s 0 ≠ 48 ∧ byt s k = 32
theorem RecHead.one {s : ByteArray} {k m : Nat} (h : RecHead s k) (g : RecHead s m) : k = m := by
  obtain ⟨_, _, _, h4, _, h6⟩ := h
  obtain ⟨_, _, _, g4, _, g6⟩ := g
  rcases Nat.lt_trichotomy k m with e | e | e
  · have := g4 k e; omega
  · exact e
  · have := h4 m e; omega
theorem valN_le {s : ByteArray} {k : Nat} (h : IsNum s k) : valN s k < 10 ^ k := by
  induction k with
  | zero => simp [valN]
  | succ k ih =>
    have h1 := ih (fun j hj => h j (by omega))
    have h2 := h k (by omega)
    simp only [valN, Nat.pow_succ]
    omega
def recNo (e : Int) : Rec × ByteArray × Int := (⟨ByteArray.empty, ByteArray.empty⟩, ByteArray.empty, e)
def recAt (s : ByteArray) (k n i : Nat) : Rec × ByteArray × Int :=
  if recFault ⟨s.extract (k + 1) i, s.extract (i + 1) (n - 1)⟩ ≠ 0 then recNo (recFault ⟨s.extract (k + 1) i, s.extract (i + 1) (n - 1)⟩)
  else if recText ⟨s.extract (k + 1) i, s.extract (i + 1) (n - 1)⟩ = s.extract 0 n then (⟨s.extract (k + 1) i, s.extract (i + 1) (n - 1)⟩, s.extract n s.size, 0) else recNo 3
def RecRes (s : ByteArray) (x : Rec × ByteArray × Int) : Prop :=
  ((¬ ∃ k, RecHead s k) ∧ x = recNo 3) ∨ ∃ k, RecHead s k ∧
    ((s.size < valN s k ∧ x = recNo 7) ∨
      (valN s k ≤ s.size ∧ (valN s k < k + 2 ∨ byt s (valN s k - 1) ≠ 10) ∧ x = recNo 3) ∨
      (valN s k ≤ s.size ∧ k + 2 ≤ valN s k ∧ byt s (valN s k - 1) = 10 ∧ (∀ j, k + 1 ≤ j → j < valN s k - 1 → byt s j ≠ 61) ∧ x = recNo 3) ∨
      (valN s k ≤ s.size ∧ k + 2 ≤ valN s k ∧ byt s (valN s k - 1) = 10 ∧ ∃ i, AtByte s 61 (k + 1) (valN s k - 1) i ∧ x = recAt s k (valN s k) i))
theorem RecRes.one {s : ByteArray} {x y : Rec × ByteArray × Int} (h : RecRes s x) (g : RecRes s y) : x = y := by
  rcases h with ⟨hn, rfl⟩ | ⟨k, hk, h⟩
  · rcases g with ⟨_, rfl⟩ | ⟨m, hm, _⟩
    · rfl
    · exact absurd ⟨m, hm⟩ hn
  · rcases g with ⟨gn, _⟩ | ⟨m, hm, g⟩
    · exact absurd ⟨k, hk⟩ gn
    · obtain rfl := hk.one hm
      rcases h with ⟨h1, rfl⟩ | ⟨h1, h2, rfl⟩ | ⟨h1, h2, h3, h4, rfl⟩ | ⟨h1, h2, h3, i, h4, rfl⟩
      · rcases g with ⟨g1, rfl⟩ | ⟨g1, g2, rfl⟩ | ⟨g1, g2, g3, g4, rfl⟩ | ⟨g1, g2, g3, i, g4, rfl⟩
        · rfl
        · omega
        · omega
        · omega
      · rcases g with ⟨g1, rfl⟩ | ⟨g1, g2, rfl⟩ | ⟨g1, g2, g3, g4, rfl⟩ | ⟨g1, g2, g3, i, g4, rfl⟩
        · omega
        · rfl
        · rfl
        · rcases h2 with h2 | h2
          · omega
          · exact absurd g3 h2
      · rcases g with ⟨g1, rfl⟩ | ⟨g1, g2, rfl⟩ | ⟨g1, g2, g3, g4, rfl⟩ | ⟨g1, g2, g3, i, g4, rfl⟩
        · omega
        · rfl
        · rfl
        · exact absurd g4.2.2.1 (h4 i g4.1 g4.2.1)
      · rcases g with ⟨g1, rfl⟩ | ⟨g1, g2, rfl⟩ | ⟨g1, g2, g3, g4, rfl⟩ | ⟨g1, g2, g3, i', g4, rfl⟩
        · omega
        · rcases g2 with g2 | g2
          · omega
          · exact absurd h3 g2
        · exact absurd h4.2.2.1 (g4 i h4.1 h4.2.1)
        · rw [h4.one g4]
open Classical in
noncomputable def recOf (s : ByteArray) : Rec × ByteArray × Int := if h : ∃ x, RecRes s x then Classical.choose h else recNo 3
theorem recOf_is {s : ByteArray} {x : Rec × ByteArray × Int} (h : RecRes s x) : recOf s = x := by
  have hex : ∃ x, RecRes s x := ⟨x, h⟩
  unfold recOf
  rw [dif_pos hex]
  exact (Classical.choose_spec hex).one h
theorem recOf_head {s : ByteArray} (h : ¬ ∃ k, RecHead s k) : recOf s = recNo 3 := recOf_is (.inl ⟨h, rfl⟩)
theorem recOf_short {s : ByteArray} {k : Nat} (h : RecHead s k) (h1 : s.size < valN s k) : recOf s = recNo 7 := recOf_is (.inr ⟨k, h, .inl ⟨h1, rfl⟩⟩)
theorem recOf_end {s : ByteArray} {k : Nat} (h : RecHead s k) (h1 : valN s k ≤ s.size) (h2 : valN s k < k + 2 ∨ byt s (valN s k - 1) ≠ 10) : recOf s = recNo 3 := recOf_is (.inr ⟨k, h, .inr (.inl ⟨h1, h2, rfl⟩)⟩)
theorem recOf_none {s : ByteArray} {k : Nat} (h : RecHead s k) (h1 : valN s k ≤ s.size) (h2 : k + 2 ≤ valN s k) (h3 : byt s (valN s k - 1) = 10) (h4 : ∀ j, k + 1 ≤ j → j < valN s k - 1 → byt s j ≠ 61) : recOf s = recNo 3 :=
  recOf_is (.inr ⟨k, h, .inr (.inr (.inl ⟨h1, h2, h3, h4, rfl⟩))⟩)
theorem recOf_at {s : ByteArray} {k i : Nat} (h : RecHead s k) (h1 : valN s k ≤ s.size) (h2 : k + 2 ≤ valN s k) (h3 : byt s (valN s k - 1) = 10) (h4 : AtByte s 61 (k + 1) (valN s k - 1) i) : recOf s = recAt s k (valN s k) i :=
  recOf_is (.inr ⟨k, h, .inr (.inr (.inr ⟨h1, h2, h3, i, h4, rfl⟩))⟩)
theorem recAt_bad {s : ByteArray} {k n i : Nat} {f : Int} (h : recFault ⟨s.extract (k + 1) i, s.extract (i + 1) (n - 1)⟩ = f) (hf : f ≠ 0) : recAt s k n i = recNo f := by unfold recAt; rw [if_pos (by rw [h]; exact hf), h]
theorem recAt_odd {s : ByteArray} {k n i : Nat} (h : recFault ⟨s.extract (k + 1) i, s.extract (i + 1) (n - 1)⟩ = 0) (h2 : recText ⟨s.extract (k + 1) i, s.extract (i + 1) (n - 1)⟩ ≠ s.extract 0 n) : recAt s k n i = recNo 3 := by unfold recAt; rw [if_neg (by rw [h]; simp), if_neg h2]
theorem recAt_ok {s : ByteArray} {k n i : Nat} (h : recFault ⟨s.extract (k + 1) i, s.extract (i + 1) (n - 1)⟩ = 0) (h2 : recText ⟨s.extract (k + 1) i, s.extract (i + 1) (n - 1)⟩ = s.extract 0 n) : recAt s k n i = (⟨s.extract (k + 1) i, s.extract (i + 1) (n - 1)⟩, s.extract n s.size, 0) := by unfold recAt; rw [if_neg (by rw [h]; simp), if_pos h2]
def recDigs : List UInt8 := [48, 49, 50, 51, 52, 53, 54, 55, 56, 57]
theorem digs_has (x : UInt8) : recDigs.contains x = true ↔ 48 ≤ x.toNat ∧ x.toNat ≤ 57 := by
  rw [List.contains_iff_mem]
  unfold recDigs
  simp only [List.mem_cons, List.not_mem_nil, or_false, ← UInt8.toNat_inj, UInt8.reduceToNat]
  omega
theorem mem_dropWhile {p : UInt8 → Bool} {l : List UInt8} {x : UInt8} (hx : x ∈ l) (hp : p x = false) : x ∈ l.dropWhile p := by
  induction l with
  | nil => cases hx
  | cons a l ih =>
    by_cases ha : p a = true
    · rw [List.dropWhile_cons_of_pos ha]
      rcases List.mem_cons.1 hx with e | e
      · rw [e, ha] at hp; cases hp
      · exact ih e
    · rw [List.dropWhile_cons_of_neg ha]; exact hx
theorem trim_digs (l : List UInt8) : (Lib.trimS l recDigs = []) ↔ ∀ x ∈ l, 48 ≤ x.toNat ∧ x.toNat ≤ 57 := by
  constructor
  · intro h x hx
    cases hc : recDigs.contains x with
    | true => exact (digs_has x).1 hc
    | false =>
      have h1 : x ∈ Lib.trimRightS l recDigs := by
        unfold Lib.trimRightS
        rw [List.mem_reverse]
        exact mem_dropWhile (by simpa using hx) hc
      have h2 : x ∈ Lib.trimS l recDigs := mem_dropWhile h1 hc
      rw [h] at h2; cases h2
  · intro h
    have hall : ∀ m : List UInt8, (∀ x ∈ m, recDigs.contains x = true) → m.dropWhile (recDigs.contains ·) = [] := by
      intro m
      induction m with
      | nil => intro _; rfl
      | cons a m ih =>
        intro hm
        rw [List.dropWhile_cons_of_pos (hm a (by simp))]
        exact ih (fun x hx => hm x (by simp [hx]))
    unfold Lib.trimS Lib.trimRightS Lib.trimLeftS
    rw [hall l.reverse (fun x hx => (digs_has x).2 (h x (by simpa using hx)))]
    rfl
theorem byt_list {s : ByteArray} {j : Nat} (h : j < s.size) : ∃ b, s.data.toList[j]? = some b ∧ b.toNat = byt s j := by
  have h1 : j < s.data.toList.length := by simpa using h
  refine ⟨s.data.toList[j], List.getElem?_eq_getElem h1, ?_⟩
  unfold byt
  rw [List.getD_eq_getElem?_getD, List.getElem?_eq_getElem h1]; rfl
theorem take_bytes {s : ByteArray} {k : Nat} (h : k ≤ s.size) : (s.extract 0 k).data.toList = s.data.toList.take k := by
  rw [Lib.extract_data, List.drop_zero, Nat.sub_zero]
theorem num_iff {s : ByteArray} {k : Nat} (h : k ≤ s.size) : (∀ x ∈ (s.extract 0 k).data.toList, 48 ≤ x.toNat ∧ x.toNat ≤ 57) ↔ IsNum s k := by
  rw [take_bytes h]
  constructor
  · intro hx j hj
    obtain ⟨b, hb, e⟩ := byt_list (s := s) (j := j) (by omega)
    rw [← e]
    exact hx b (List.mem_of_getElem? (i := j) (by rw [List.getElem?_take, if_pos hj]; exact hb))
  · intro hn x hx
    obtain ⟨j, hj, rfl⟩ := List.getElem_of_mem hx
    have hj' : j < k := by rw [List.length_take] at hj; omega
    obtain ⟨b, hb, e⟩ := byt_list (s := s) (j := j) (by omega)
    rw [List.getElem_take]
    have : s.data.toList[j]'(by rw [List.length_take] at hj; omega) = b := by
      rw [List.getElem?_eq_getElem (by rw [List.length_take] at hj; omega)] at hb
      exact Option.some.inj hb
    rw [this, e]
    exact hn j hj'
theorem decFrom_num {s : ByteArray} : ∀ {k : Nat}, k ≤ s.size → IsNum s k → Lib.decFrom 0 (s.data.toList.take k) = some (valN s k)
  | 0, _, _ => rfl
  | k + 1, h, hn => by
    have ih := decFrom_num (k := k) (by omega) (fun j hj => hn j (by omega))
    obtain ⟨b, hb, e⟩ := byt_list (s := s) (j := k) (by omega)
    have hd := hn k (by omega)
    have := Lib.decFrom_take s.data.toList k 0 (valN s k) b (byt s k - 48) ih hb (by unfold Lib.digitVal; rw [e, if_pos hd])
    rw [this]
    simp only [valN]
    congr 1
    omega
theorem atoi_num {s : ByteArray} {k : Nat} (h1 : 1 ≤ k) (h : k ≤ s.size) (hn : IsNum s k) : Lib.atoi (s.extract 0 k).data.toList = some (valN s k : Int) := by
  rw [take_bytes h]
  have hd := decFrom_num h hn
  obtain ⟨b, hb, e⟩ := byt_list (s := s) (j := 0) (by omega)
  have h0 := hn 0 (by omega)
  obtain ⟨r, hr⟩ : ∃ r, s.data.toList.take k = b :: r := by
    cases hl : s.data.toList with
    | nil => rw [hl] at hb; cases hb
    | cons a t =>
      rw [hl] at hb
      obtain rfl : a = b := by simpa using hb
      obtain ⟨m, rfl⟩ : ∃ m, k = m + 1 := ⟨k - 1, by omega⟩
      exact ⟨t.take m, by rw [List.take_succ_cons]⟩
  rw [hr] at hd ⊢
  have hb1 : (b == 45) = false := by
    rw [beq_eq_false_iff_ne]; intro e2; rw [e2] at e; have : (45 : UInt8).toNat = 45 := rfl; omega
  have hb2 : (b == 43) = false := by
    rw [beq_eq_false_iff_ne]; intro e2; rw [e2] at e; have : (43 : UInt8).toNat = 43 := rfl; omega
  unfold Lib.atoi
  simp only [hb1, hb2, Bool.false_eq_true, if_false]
  unfold Lib.decNat
  simp [hd]
theorem ext_ext {s : ByteArray} {a b i j : Nat} (hj : a + j ≤ b) : (s.extract a b).extract i j = s.extract (a + i) (a + j) := by
  apply ext_bytes
  rw [Lib.extract_data, Lib.extract_data, Lib.extract_data, List.drop_take, List.drop_drop, List.take_take]
  congr 1
  omega
theorem byt_part {s : ByteArray} {a b j : Nat} (hb : b ≤ s.size) (hj : a + j < b) : byt (s.extract a b) j = byt s (a + j) := by
  unfold byt
  rw [Lib.extract_data, List.getD_eq_getElem?_getD, List.getD_eq_getElem?_getD, List.getElem?_take, if_pos (by omega), List.getElem?_drop]
open Go.RowKit
theorem results_rec3 {fn : Func} {p u x : Tmp} {ty : TypeId} (h : fn.results = #[.cell p ty, .tmp u, .tmp x]) (tmps : Array Value) (P : Program) (w : World) :
    (results fn tmps).run P w =
      ((asAddr (tmps.getD p undef)).run P w).andThen fun a w₁ => ((loadVar ty a).run P w₁).andThen fun v w₂ => .ok (.tuple #[v, tmps.getD u undef, tmps.getD x undef]) w₂ := by
  simp only [results, h]
  simp [Sem.run_bind, Result.andThen]
def RBox (ty : TypeId) (b : Nat) (key value : ByteArray) (w : World) : Prop := w.heap[b]? = some (.cells #[.string key, .string value] ty (0, 0))
theorem RBox.lt {ty : TypeId} {b : Nat} {x y : ByteArray} {w : World} (h : RBox ty b x y w) : b < w.heap.size := (Array.getElem?_eq_some_iff.1 h).1
theorem RBox.on {ty : TypeId} {b : Nat} {x y : ByteArray} {w w' : World} (h : RBox ty b x y w) (hb : Below w.heap.size w w') : RBox ty b x y w' := (hb.block b h.lt).trans h
theorem RBox.facts {ty : TypeId} {b : Nat} {x y : ByteArray} {w : World} (h : RBox ty b x y w) : w.cell? ⟨b, 0, none⟩ = some (.string x) ∧ w.cell? ⟨b, 1, none⟩ = some (.string y) ∧ w.frozen? ⟨b, 0, none⟩ = false ∧ w.frozen? ⟨b, 1, none⟩ = false := by
  have h' := h
  unfold RBox at h'
  exact ⟨by rw [cell_of_row w b 0 _ ty (0, 0) h']; rfl, by rw [cell_of_row w b 1 _ ty (0, 0) h']; rfl, frozen_of_row w b 0 _ ty h', frozen_of_row w b 1 _ ty h'⟩
theorem head_at {s : ByteArray} {k m : Nat} (h1 : byt s k = 32) (h2 : ∀ j, j < k → byt s j ≠ 32) (h : RecHead s m) : m = k := by
  obtain ⟨_, _, _, h4, _, h6⟩ := h
  rcases Nat.lt_trichotomy m k with e | e | e
  · exact absurd h6 (h2 m e)
  · exact e
  · have := h4 k e; omega
open Go.RowKit
theorem recRes_is (s : ByteArray) : RecRes s (recOf s) := by
  have hex : ∃ x, RecRes s x := by
    by_cases h : ∃ k, RecHead s k
    · obtain ⟨k, hk⟩ := h
      by_cases h1 : s.size < valN s k
      · exact ⟨_, .inr ⟨k, hk, .inl ⟨h1, rfl⟩⟩⟩
      · by_cases h2 : valN s k < k + 2 ∨ byt s (valN s k - 1) ≠ 10
        · exact ⟨_, .inr ⟨k, hk, .inr (.inl ⟨by omega, h2, rfl⟩)⟩⟩
        · have h3 : k + 2 ≤ valN s k := by omega
          have h4 : byt s (valN s k - 1) = 10 := by omega
          by_cases h5 : ∀ j, k + 1 ≤ j → j < valN s k - 1 → byt s j ≠ 61
          · exact ⟨_, .inr ⟨k, hk, .inr (.inr (.inl ⟨by omega, h3, h4, h5, rfl⟩))⟩⟩
          · have h6 : ∃ j, k + 1 ≤ j ∧ j < valN s k - 1 ∧ byt s j = 61 := by
              refine Classical.byContradiction fun hn => h5 fun j a b c => hn ⟨j, a, b, c⟩
            have h7 : ∃ i, AtByte s 61 (k + 1) (valN s k - 1) i := by
              obtain ⟨j, a, b, c⟩ := h6
              induction j using Nat.strongRecOn with
              | ind j ih =>
                by_cases hq : ∃ q, k + 1 ≤ q ∧ q < j ∧ byt s q = 61
                · obtain ⟨q, q1, q2, q3⟩ := hq
                  exact ih q q2 q1 (by omega) q3
                · exact ⟨j, a, b, c, fun q q1 q2 q3 => hq ⟨q, q1, q2, q3⟩⟩
            obtain ⟨i, hi⟩ := h7
            exact ⟨_, .inr ⟨k, hk, .inr (.inr (.inr ⟨by omega, h3, h4, i, hi, rfl⟩))⟩⟩
    · exact ⟨_, .inl ⟨h, rfl⟩⟩
  obtain ⟨x, hx⟩ := hex
  rw [recOf_is hx]
  exact hx
theorem recOf_less {s : ByteArray} (h : (recOf s).2.2 = 0) : (recOf s).2.1.size < s.size ∧ (recOf s).1.key.size ≤ s.size ∧ (recOf s).1.value.size ≤ s.size := by
  have hr := recRes_is s
  generalize recOf s = x at *
  rcases hr with ⟨_, rfl⟩ | ⟨k, hk, ⟨_, rfl⟩ | ⟨_, _, rfl⟩ | ⟨_, _, _, _, rfl⟩ | ⟨h1, h2, h3, i, h4, rfl⟩⟩
  · cases h
  · cases h
  · cases h
  · cases h
  · by_cases hf : recFault ⟨s.extract (k + 1) i, s.extract (i + 1) (valN s k - 1)⟩ = 0
    · by_cases ht : recText ⟨s.extract (k + 1) i, s.extract (i + 1) (valN s k - 1)⟩ = s.extract 0 (valN s k)
      · rw [recAt_ok hf ht]
        refine ⟨?_, ?_, ?_⟩ <;> simp <;> omega
      · rw [recAt_odd hf ht] at h; cases h
    · rw [recAt_bad rfl hf] at h
      exact absurd h hf
noncomputable def paxGo : Nat → ByteArray → List Rec → List Rec × Int
  | 0, _, acc => (acc, 0)
  | n + 1, s, acc => if s.size = 0 then (acc, 0) else if (recOf s).2.2 = 0 then paxGo n (recOf s).2.1 (acc ++ [(recOf s).1]) else ([], (recOf s).2.2)
theorem paxGo_done {n : Nat} {s : ByteArray} {acc : List Rec} (h : s.size = 0) : paxGo n s acc = (acc, 0) := by
  cases n with
  | zero => rfl
  | succ n => simp only [paxGo]; rw [if_pos h]
theorem paxGo_bad {n : Nat} {s : ByteArray} {acc : List Rec} (h : s.size ≠ 0) (hn : s.size ≤ n) (he : (recOf s).2.2 ≠ 0) : paxGo n s acc = ([], (recOf s).2.2) := by
  obtain ⟨m, rfl⟩ : ∃ m, n = m + 1 := ⟨n - 1, by omega⟩
  simp only [paxGo]; rw [if_neg h, if_neg he]
theorem paxGo_step {n : Nat} {s : ByteArray} {acc : List Rec} (h : s.size ≠ 0) (hn : s.size ≤ n) (he : (recOf s).2.2 = 0) : paxGo n s acc = paxGo (n - 1) (recOf s).2.1 (acc ++ [(recOf s).1]) := by
  obtain ⟨m, rfl⟩ : ∃ m, n = m + 1 := ⟨n - 1, by omega⟩
  simp only [paxGo]; rw [if_neg h, if_pos he]; rfl
noncomputable def paxOf (s : ByteArray) : List Rec × Int :=
  if (paxGo s.size s []).2 ≠ 0 then ([], (paxGo s.size s []).2) else if paxFault (paxGo s.size s []).1 ≠ 0 then ([], paxFault (paxGo s.size s []).1) else ((paxGo s.size s []).1, 0)
open Go.RowKit
def recFind : List Rec → ByteArray → ByteArray × Bool
  | [], _ => (ByteArray.empty, false)
  | r :: t, key => if r.key = key then (r.value, true) else recFind t key
theorem recFind_drop {l : List Rec} {k : Nat} (h : k < l.length) (key : ByteArray) : recFind (l.drop k) key = if (rk l k).key = key then ((rk l k).value, true) else recFind (l.drop (k + 1)) key := by
  rw [List.drop_eq_getElem_cons h]
  simp [recFind, rk, List.getD_eq_getElem?_getD, List.getElem?_eq_getElem h]
end Go.Creel
namespace Go.Proofs.YtaffgndickdbiaaGreatDoor
open Go.Creel Go.RowKit
set_option maxRecDepth 100000 in
set_option maxHeartbeats 400000 in
theorem Find_any {N : Nat} (v : Value) (l : List Rec) (key : ByteArray) (w : World) (h : SliceC N 2 (RecC N) w [v] l) :
    Calls Tryz.prog 121 #[v, .string key] w fun e w' => e = .returned (.tuple #[.string (recFind l key).1, .bool (recFind l key).2]) ∧ Below w.heap.size w w' := by
  rcases recs_cases h with ⟨a, cap, rfl, rfl⟩ | ⟨b, off, cap, rfl, hpos, hle, hm, _, hc⟩
  · go_enter Tryz.func121, Tryz.ntmps121
    go_wp2
    go_loop [7, 10] (fun _ i => i = .int .i64 0) (fun _ _ => 0)
    case atStart => rfl
    case round =>
      obtain rfl := hrel
      go_wp2
      go_ret2
      exact ⟨rfl, Below.refl _ _⟩
  · unfold maxLen at hm
    have hbl : b < w.heap.size := World.block_lt_of_cell? w _ (hc 0 hpos).1.1
    have Hc := Lib.hid hc
    have HF := Lib.hid (show recFind l key = recFind (l.drop 0) key by simp)
    generalize hp : recFind l key = p at *
    clear hc h hp
    go_enter Tryz.func121, Tryz.ntmps121
    go_wp2
    go_loopw [7, 10] (fun _ i wr => ∃ k : Nat, k ≤ l.length ∧ i = .int .i64 k ∧ Hid (p = recFind (l.drop k) key) ∧ Below w.heap.size w wr) (fun _ i _ => l.length - (intOf i).toNat)
    case atStart => exact ⟨0, by omega, rfl, HF, Below.refl _ _⟩
    case round =>
      obtain ⟨k, hk, rfl, HP, hB⟩ := hrel
      by_cases hlt : k < l.length
      · obtain ⟨⟨hc0, hc1⟩, _⟩ := Hc.out k hlt
        rw [← hB.cell (p := ⟨b, off + k * 2, none⟩) hbl] at hc0
        rw [← hB.cell (p := ⟨b, off + k * 2 + 1, none⟩) hbl] at hc1
        have HS := Lib.hid (recFind_drop hlt key)
        have HB := Lib.hid hB
        have hsz := hB.size
        clear hB
        by_cases he : (rk l k).key = key
        · have hb := seq_t he
          have HE := Lib.hid he
          clear he
          go_wp2
          go_ret2
          exact ⟨ret_sb (by rw [HP.out, HS.out, if_pos HE.out]), HB.out.alloc hsz _⟩
        · have hb := seq_f he
          have HE := Lib.hid he
          clear he
          go_wp2
          go_roundw
          case rel => exact ⟨k + 1, by omega, by go_num, by have := HP.out; rw [HS.out, if_neg HE.out] at this; exact this, HB.out.alloc hsz _⟩
          case measure => simp [intOf]; omega
      · have hk' : k = l.length := by omega
        subst hk'
        go_wp2
        go_ret2
        exact ⟨ret_sb (by rw [HP.out, List.drop_length]; rfl), hB⟩
end Go.Proofs.YtaffgndickdbiaaGreatDoor
