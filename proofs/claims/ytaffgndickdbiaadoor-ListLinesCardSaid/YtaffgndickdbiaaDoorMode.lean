/-
  Modes as texts: the plain words.
-/
import Derived.Test.YtaffgndickdbiaaDoorData
import Derived.Laws.BitsLemmas
import Derived.Lib.SlBytesConst
namespace Go.Creel
set_option linter.unusedVariables false
open Go.RowKit
theorem and_one (n : Int) : bits .and .i64 n 1 = n % 2 := by
  have h127 : (BitVec.ofInt 64 1).toNat = 2 ^ 1 - 1 := by decide
  have key : (BitVec.ofInt 64 n &&& BitVec.ofInt 64 1).toNat = (n % ((2 ^ 64 : Nat) : Int)).toNat % 2 ^ 1 := by
    rw [BitVec.toNat_and, BitVec.toNat_ofInt, h127, Nat.and_two_pow_sub_one_eq_mod]
  show IntKind.i64.wrap ((BitVec.ofInt 64 n &&& BitVec.ofInt 64 1).toNat : Nat) = n % 2
  rw [key, IntKind.wrap_i64]
  omega
theorem bit_test (m k : Nat) : (bits .and .i64 ((m : Int) / 2 ^ k) 1 == 0) = decide (m / 2 ^ k % 2 = 0) := by
  rw [and_one]
  have : ((m : Int) / 2 ^ k) % 2 = ((m / 2 ^ k % 2 : Nat) : Int) := by simp
  rw [this]
  by_cases h : m / 2 ^ k % 2 = 0
  · rw [h]; rfl
  · rw [decide_eq_false h, beq_eq_false_iff_ne]; omega
def rwx (j : Nat) : UInt8 := ([114, 119, 120] : List UInt8).getD (j % 3) 0
def permC (m j : Nat) : UInt8 := if m / 2 ^ (8 - j) % 2 = 0 then 45 else rwx j
def permK (m k : Nat) : List UInt8 := (List.range 9).map fun j => if j < k then permC m j else rwx j
def signC (m j : Nat) : UInt8 := if permC m j = 45 then (if j = 8 then 84 else 83) else (if j = 8 then 116 else 115)
def modeC (m j : Nat) : UInt8 := if j % 3 = 2 ∧ m / 2 ^ (9 + (8 - j) / 3) % 2 = 1 then signC m j else permC m j
def modeK (m k : Nat) : List UInt8 := (List.range 9).map fun j => if (8 - j) / 3 < k then modeC m j else permC m j
def modeL (m : Nat) : List UInt8 := (List.range 9).map (modeC m)
def modeText (m : Int) : ByteArray × Int := if m < 0 ∨ 4095 < m then (ByteArray.empty, 4) else (ofL (modeL m.toNat), 0)
theorem permK_len (m k : Nat) : (permK m k).length = 9 := by simp [permK]
theorem modeK_len (m k : Nat) : (modeK m k).length = 9 := by simp [modeK]
theorem permK_yes {m k : Nat} (h : m / 2 ^ (8 - k) % 2 ≠ 0) : permK m (k + 1) = permK m k := by
  unfold permK
  apply List.map_congr_left
  intro j _
  by_cases h1 : j < k
  · rw [if_pos h1, if_pos (by omega)]
  · by_cases h2 : j = k
    · subst h2
      rw [if_pos (by omega), if_neg (by omega)]
      unfold permC
      rw [if_neg h]
    · rw [if_neg (by omega), if_neg h1]
theorem permK_no {m k : Nat} (hk : k < 9) (h : m / 2 ^ (8 - k) % 2 = 0) : permK m (k + 1) = (permK m k).set k 45 := by
  unfold permK
  apply List.ext_getElem
  · simp
  · intro j h1 h2
    simp only [List.getElem_map, List.getElem_range, List.getElem_set]
    by_cases hj : k = j
    · subst hj
      rw [if_pos rfl, if_pos (by omega)]
      unfold permC
      rw [if_pos h]
    · rw [if_neg hj]
      by_cases h3 : j < k
      · rw [if_pos h3, if_pos (by omega)]
      · rw [if_neg h3, if_neg (by omega)]
theorem permK_end (m : Nat) : permK m 9 = modeK m 0 := by
  unfold permK modeK
  apply List.map_congr_left
  intro j hj
  rw [if_pos (List.mem_range.1 hj), if_neg (by omega)]
theorem modeK_end (m : Nat) : modeK m 3 = modeL m := by
  unfold modeL modeK
  apply List.map_congr_left
  intro j hj
  rw [if_pos (by omega)]
theorem modeK_skip {m k : Nat} (hk : k < 3) (h : m / 2 ^ (9 + k) % 2 = 0) : modeK m (k + 1) = modeK m k := by
  unfold modeK
  apply List.map_congr_left
  intro j hj
  have hj9 := List.mem_range.1 hj
  by_cases h1 : (8 - j) / 3 < k
  · rw [if_pos h1, if_pos (by omega)]
  · rw [if_neg h1]
    by_cases h2 : (8 - j) / 3 < k + 1
    · rw [if_pos h2]
      unfold modeC
      rw [if_neg]
      rintro ⟨a, b⟩
      rw [show (8 - j) / 3 = k by omega] at b
      omega
    · rw [if_neg h2]
theorem modeK_put {m k : Nat} (hk : k < 3) (h : m / 2 ^ (9 + k) % 2 ≠ 0) : modeK m (k + 1) = (modeK m k).set (8 - 3 * k) (signC m (8 - 3 * k)) := by
  unfold modeK
  apply List.ext_getElem
  · simp
  · intro j h1 h2
    have hj9 : j < 9 := by simpa using h1
    simp only [List.getElem_map, List.getElem_range, List.getElem_set]
    by_cases hj : 8 - 3 * k = j
    · rw [if_pos hj, if_pos (by omega)]
      unfold modeC
      rw [if_pos ⟨by omega, by rw [show (8 - j) / 3 = k by omega]; omega⟩, hj]
    · rw [if_neg hj]
      by_cases h3 : (8 - j) / 3 < k
      · rw [if_pos h3, if_pos (by omega)]
      · rw [if_neg h3]
        by_cases h4 : (8 - j) / 3 < k + 1
        · rw [if_pos h4]
          unfold modeC
          rw [if_neg (by omega)]
        · rw [if_neg h4]
theorem modeK_at {m k : Nat} (hk : k < 3) : bl (modeK m k) (8 - 3 * k) = (permC m (8 - 3 * k)).toNat := by
  unfold bl modeK
  rw [List.getD_eq_getElem?_getD, List.getElem?_eq_getElem (by simp; omega)]
  simp only [List.getElem_map, List.getElem_range, Option.getD_some]
  rw [if_neg (by omega)]
/-- a row of bytes behind a conversion of a constant text -/
def RowF (t : TypeId) (w : World) (g : Nat) (l : List UInt8) : Prop := w.heap[g]? = some (.cells (l.map byteV).toArray t (l.length, l.length + 1))
theorem RowF.cell {t : TypeId} {w : World} {g : Nat} {l : List UInt8} (h : RowF t w g l) {j : Nat} (hj : j < l.length) : w.cell? ⟨g, j, none⟩ = some (.int .u8 (bl l j)) := by
  unfold RowF at h
  simp [World.cell?, h, bl, byteV, List.getD_eq_getElem?_getD, List.getElem?_eq_getElem hj]
theorem RowF.free {t : TypeId} {w : World} {g : Nat} {l : List UInt8} (h : RowF t w g l) {j : Nat} (hj : j < l.length) : w.frozen? ⟨g, j, none⟩ = false := by
  unfold RowF at h
  simp [World.frozen?, h]; omega
theorem RowF.store {t : TypeId} {w : World} {g : Nat} {l : List UInt8} (h : RowF t w g l) (j : Nat) (c : UInt8) {n : Int} (hn : n = c.toNat) : RowF t (w.setCell ⟨g, j, none⟩ (.int .u8 n)) g (l.set j c) := by
  subst hn
  unfold RowF at h ⊢
  simp [World.setCell, Array.getElem?_modify, h, List.map_set, byteV]
theorem RowF.lt {t : TypeId} {w : World} {g : Nat} {l : List UInt8} (h : RowF t w g l) : g < w.heap.size := (Array.getElem?_eq_some_iff.1 h).1
theorem RowF.string {P : Program} {t : TypeId} {w : World} {g cap : Nat} {l : List UInt8} (h : RowF t w g l) (src e dst : TypeId) (hs : P.underlying src = some (.slice e)) (he : P.underlying e = some (.int .u8)) (hd : P.underlying dst = some .string) :
    (convert src dst (.slice (some ⟨g, 0, none⟩) l.length cap)).run P w = .ok (.string (ofL l)) w := by
  have hx : strOfNums (l.map fun c => (c.toNat : Int)) = ofL l := by
    apply ext_bytes
    rw [strOfNums_data, ofL_data, List.map_map]
    conv => rhs; rw [← List.map_id l]
    apply List.map_congr_left
    intro c _
    simp
  rw [← hx]
  refine run_convert_bytes_arg w src e hs he g 0 l.length cap _ (by simp) (fun i hi => ?_) dst hd
  rw [Nat.zero_add, h.cell hi]
  simp [bl, List.getD_eq_getElem?_getD, List.getElem?_eq_getElem hi]
end Go.Creel
