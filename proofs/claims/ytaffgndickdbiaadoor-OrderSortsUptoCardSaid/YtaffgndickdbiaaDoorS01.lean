/-
  Texts: Base, Data, Nodes, Text, MetaCheck, Append, Shelf.
-/
import Derived.WalkKit
import Derived.ProofKit
import Derived.ChangeOld
import Derived.Lib.Hide
import Derived.WalkLawsBesides
import Derived.WalkSpells
import Derived.ShutString
import Derived.OpenShut
import Derived.Deep.Slices
import Derived.Deep.Fields
import Derived.Lib.Strings
import Derived.Deep.QuietTactic
import Derived.BigQuiet
import Derived.Test.YtaffgndickdbiaaDoorRows
import Derived.Deep.AppendSrc
import Derived.Lib.AppendZeros
import Derived.Laws.OwnMore
import Derived.Shelf.Strings.Builder1
import Derived.Shelf.Strings.Builder2
import Derived.Shelf.Strings.Trim
import Derived.Shelf.Small.Utf8
import Derived.Shelf.Small.Strs
import Derived.Shelf.Strings.BuilderF
import Derived.Shelf.Strings.BuilderK
import Derived.Shelf.Strings.Builder2Cap
import Derived.Shelf.Strconv.Itoa0
import Derived.Shelf.Strconv.Itoa1
import Derived.Shelf.LaysM
import Derived.Shelf.Strconv.Itoa2
import Derived.Shelf.Strconv.Itoa3
import Derived.Shelf.Strings.Search1
import Derived.Shelf.Strings.Search2
import Derived.Shelf.Strings.Search3
import Derived.Shelf.Strings.Count
import Derived.Shelf.Strings.Shaped
import Derived.Shelf.Strings.LastIndex
import Derived.Shelf.Strings.Prefix
import Derived.Shelf.Strings.Split
import Derived.Shelf.Strings.SplitShaped
import Derived.Shelf.Strings.Runes
import Derived.Shelf.Strings.AsciiSet
import Derived.Shelf.Bits.Mul64
import Derived.Shelf.Strings.Repeat
import Derived.Shelf.Unicode.DecodeSlow
import Derived.Shelf.Strings.BuilderCap
import Derived.Shelf.Slices.Equal
import Derived.Shelf.Slices.Empties2
import Derived.Ground.PaProg
import Derived.Shelf.Path.Small
import Derived.Test.YtaffgndickdbiaaDoorProg
set_option linter.unusedVariables false
set_option linter.unusedSimpArgs false
set_option linter.unusedSectionVars false
namespace Go.Creel
open Go.ChangeShapes Go.WideShapes Go.ChangeAt Go.RowKit Go.Deep
open Go.ChangeMaps (open_string)
section
variable {H : Type} {enc : TypeId × Value → H} {P : Program}
theorem trodAll_below (hl : laidOutB P = true) {W W' : World} (hb : Below W.heap.size W W') :
    ∀ {ts : List TypeId} {vs : List Value} {ds : List (DataW H)} {ps : List MemPlace}, (ts.all fun t => P.readableRec t && decide (t < P.types.size)) = true →
      DataW.TrodAll enc P W 0 (fun _ => true) true ts vs ds ps → (∀ x ∈ ps, x.block < W.heap.size) → DataW.TrodAll enc P W' 0 (fun b => decide (b < W.heap.size)) true ts vs ds ps
  | [], vs, ds, ps, _, h, _ => by
    obtain ⟨rfl, rfl, rfl⟩ := trodAll_nil h
    exact trodAll_mk0
  | t :: ts, vs, ds, ps, hr, h, hlt => by
    obtain ⟨v, vs', d, ds', p, q, rfl, rfl, rfl, h0, h1⟩ := trodAll_cons h
    simp only [List.all_cons, Bool.and_eq_true, decide_eq_true_eq] at hr
    exact trodAll_cons_mk (Below.trod hl hr.1.1 hr.1.2 h0 hb (fun x hx => hlt x (by simp [hx]))) (trodAll_below hl hb (by simpa using hr.2) h1 (fun x hx => hlt x (by simp [hx])))
theorem trodAll_lt {W : World} : ∀ {ts : List TypeId} {vs : List Value} {ds : List (DataW H)} {ps : List MemPlace},
      DataW.TrodAll enc P W 0 (fun _ => true) true ts vs ds ps → ∀ x ∈ ps, x.block < W.heap.size
  | [], vs, ds, ps, h => by
    obtain ⟨rfl, rfl, rfl⟩ := trodAll_nil h
    simp
  | t :: ts, vs, ds, ps, h => by
    obtain ⟨v, vs', d, ds', p, q, rfl, rfl, rfl, ⟨m, h0⟩, h1⟩ := trodAll_cons h
    intro x hx
    rcases List.mem_append.1 hx with hx | hx
    · exact DataW.trod_lt m _ _ _ h0 x hx
    · exact trodAll_lt h1 x hx
theorem law_post {fn : Func} {s : ChangeSpec} {tb : TypeId} {W W' : World} {args : Array Value} {ds gs : List (DataW H)} {before : List MemPlace} (hl : laidOutB P = true)
    (hr : (fn.params.toList.all fun t => P.readableRec t && decide (t < P.types.size)) = true) (hres : fn.resultTypes = #[tb]) (htb : P.underlying tb = some .bool) (hv : s.vars = [])
    (hs : s.fn H (ds ++ gs) = { results := [.lit (.bool true)], args := ds })
    (hW : DataW.Whole enc P fn.params.toList s.vars false W args.toList ds gs before) (bel : Below W.heap.size W W') : s.post enc P fn false true false false W args (.bool true) W' := by
  have hW' := hW
  obtain ⟨p, q, hA, hV, rfl, hfz, hnd⟩ := hW
  rw [hv] at hV
  obtain ⟨rfl, rfl⟩ := trodVars_none hV
  refine ⟨ds, [], _, [], p, [], hW', ?_, ?_, ?_, bel.frame _, fun h => by cases h⟩
  · rw [hs, hres]
    exact trodAll_mk1 (shut_bool htb _)
  · rw [hs]
    exact trodAll_below hl bel hr hA (trodAll_lt hA)
  · rw [hs, hv]
    rfl
end
structure Bd (H : Type) (S : DataW H → Prop) (N : Nat) : Prop where
  str : ∀ l, S (.lit (.string l)) → l.length ≤ maxLen → l.length ≤ N
  slc : ∀ el sp, S (.slice el sp) → el.length + sp.length ≤ maxLen → el.length ≤ N ∧ ∀ d ∈ el, S d
  agg : ∀ ps, S (.agg ps) → ∀ d ∈ ps, S d
theorem Bd.any (H : Type) : Bd H (fun _ => True) maxLen := ⟨fun _ _ h => h, fun _ _ _ h => ⟨by omega, fun _ _ => trivial⟩, fun _ _ _ _ => trivial⟩
def Opens {H : Type} (enc : TypeId × Value → H) (P : Program) (W : World) (S : DataW H → Prop) (t : TypeId) {α : Type} (E : World → List Value → α → Prop) : Prop :=
  ∀ (fuel : Nat) (cs : List Value) (x : DataW H × List MemPlace), DataW.trod enc P W 0 (fun _ => true) true fuel t cs = some x → S x.1 → ∃ a, E W cs a
def IntC (_ : World) (cs : List Value) (n : Int) : Prop := cs = [.int .i64 n] ∧ -9223372036854775808 ≤ n ∧ n ≤ 9223372036854775807
def ByteC (_ : World) (cs : List Value) (n : UInt8) : Prop := cs = [.int .u8 n.toNat]
def StrC (N : Nat) (_ : World) (cs : List Value) (s : ByteArray) : Prop := cs = [.string s] ∧ s.size ≤ N
def w_cells (w : World) (a : Addr) (i n : Nat) (c : List Value) : Prop := c.length = n ∧ ∀ j, j < n → w.cell? ((a.add (i * n)).add j) = c[j]?
def SliceC {α : Type} (N n : Nat) (E : World → List Value → α → Prop) (w : World) (cs : List Value) (l : List α) : Prop :=
  ∃ (a : Option Addr) (cap : Nat), cs = [.slice a l.length cap] ∧ l.length ≤ cap ∧ cap ≤ maxLen ∧ l.length ≤ N ∧ (a = none → cap = 0) ∧
    (0 < l.length → ∃ b off, a = some ⟨b, off, none⟩ ∧ ∀ i (h : i < l.length), ∃ c, c.length = n ∧ (∀ j, j < n → w.cell? ⟨b, off + i * n + j, none⟩ = c[j]?) ∧ E w c l[i])
section
variable {H : Type} {enc : TypeId × Value → H} {P : Program} {W : World} {S : DataW H → Prop} {N : Nat}
theorem opens_int {t : TypeId} (ht : P.underlying t = some (.int .i64)) : Opens enc P W S t IntC := by
  intro fuel cs x h _
  obtain ⟨n, rfl, _, hw⟩ := DataW.trod_int ht h
  exact ⟨n, rfl, bounds_i64 hw⟩
theorem opens_byte {t : TypeId} (ht : P.underlying t = some (.int .u8)) : Opens enc P W S t ByteC := by
  intro fuel cs x h _
  obtain ⟨n, rfl, _, hw⟩ := DataW.trod_int ht h
  have := bounds_u8 hw
  refine ⟨UInt8.ofNat n.toNat, ?_⟩
  have h1 : (UInt8.ofNat n.toNat).toNat = n.toNat := by simp; omega
  show [Value.int .u8 n] = [.int .u8 ((UInt8.ofNat n.toNat).toNat : Int)]
  rw [h1, Int.toNat_of_nonneg this.1]
theorem opens_str (hS : Bd H S N) {t : TypeId} (ht : P.underlying t = some .string) : Opens enc P W S t (StrC N) := by
  intro fuel cs x h hx
  obtain ⟨s, rfl, rfl, hs⟩ := DataW.trod_string ht h
  have := hS.str _ hx (by simpa using hs)
  exact ⟨s, rfl, by simpa using this⟩
theorem list_of {α : Type} {n : Nat} {p : Nat → α → Prop} (h : ∀ i, i < n → ∃ a, p i a) : ∃ l : List α, l.length = n ∧ ∀ i (hi : i < l.length), p i l[i] := by
  induction n with
  | zero => exact ⟨[], rfl, fun i hi => absurd hi (by simp)⟩
  | succ n ih =>
    obtain ⟨l, hl, hp⟩ := ih (fun i hi => h i (by omega))
    obtain ⟨a, ha⟩ := h n (by omega)
    refine ⟨l ++ [a], by simp [hl], fun i hi => ?_⟩
    by_cases e : i < l.length
    · rw [List.getElem_append_left e]; exact hp i e
    · have : i = n := by simp at hi; omega
      subst this
      rw [List.getElem_append_right (by omega)]
      simpa [hl] using ha
theorem opens_slice {α : Type} {E : World → List Value → α → Prop} {n : Nat} (hS : Bd H S N) {t e : TypeId} (ht : P.underlying t = some (.slice e)) (hn : P.cellsOf e = n) (hpos : 0 < n) (hE : Opens enc P W S e E) : Opens enc P W S t (SliceC N n E) := by
  intro fuel cs x h hx
  rcases open_slice ht h with ⟨rfl, rfl⟩ | ⟨a, len, cap, m, n', D, Pl, rfl, _, hl, hm, hmm, rfl, hi⟩
  · exact ⟨[], none, 0, rfl, by simp, by simp, by simp, fun _ => rfl, fun h => absurd h (by simp)⟩
  · simp only [if_true] at hmm
    subst hmm
    have hb := hS.slc _ _ hx (by simp; omega)
    have hel : ∀ i, i < len → ∃ x : α, ∃ c, w_cells W a i n c ∧ E W c x := by
      intro i hlt
      obtain ⟨c, hc, ht'⟩ := hi i (by omega)
      rw [hn] at hc
      obtain ⟨_, hcl, hat⟩ := World.cells?_some hc
      obtain ⟨y, hy⟩ := hE _ _ _ ht' (hb.2 _ (List.mem_map.2 ⟨i, List.mem_range.2 hlt, rfl⟩))
      exact ⟨y, c, ⟨hcl, hat⟩, hy⟩
    obtain ⟨l, hll, hlp⟩ := list_of hel
    refine ⟨l, some a, m, by rw [hll], by omega, hm, by have := hb.1; simp at this; omega, (fun h => by cases h), fun hpos' => ?_⟩
    obtain ⟨b, off, spot⟩ := a
    obtain ⟨c, ⟨hcl, hat⟩, _⟩ := hlp 0 hpos'
    have hc0 := hat 0 (by omega)
    have hspot : spot = none := by
      rw [List.getElem?_eq_getElem (by omega)] at hc0
      simpa [Addr.add] using World.cell?_spot hc0
    subst hspot
    refine ⟨b, off, rfl, fun i hi => ?_⟩
    obtain ⟨c, ⟨hcl, hat⟩, he⟩ := hlp i hi
    refine ⟨c, hcl, fun j hj => ?_, he⟩
    rw [← hat j hj]
    congr 1
    simp only [Addr.add]
    by_cases h1 : i * n = 0 <;> by_cases h2 : j = 0 <;> simp [h1, h2]
theorem opens_field {t : TypeId} {fs : Array Field} {α : Type} {E : World → List Value → α → Prop} {fuel : Nat} {cs : List Value} {x : DataW H × List MemPlace} (hS : Bd H S N) (ht : P.underlying t = some (.struct fs))
    (h : DataW.trod enc P W 0 (fun _ => true) true fuel t cs = some x) (hx : S x.1) (i o n : Nat) {f : Field} (hf : fs[i]? = some f) (ho : f.offset = o) (hn : P.cellsOf f.type = n) (hE : Opens enc P W S f.type E) : ∃ a, E W ((cs.drop o).take n) a := by
  subst ho
  obtain ⟨xs, m, _, rfl, hl, hlen, hg⟩ := DataW.trod_struct ht h
  have hlt : i < fs.size := (Array.getElem?_eq_some_iff.1 hf).1
  have h1 := hg i f hf
  rw [hn, List.getElem?_eq_getElem (by omega)] at h1
  exact hE _ _ _ h1 (hS.agg _ hx _ (List.mem_map.2 ⟨_, List.getElem_mem _, rfl⟩))
theorem opens_len {t : TypeId} {fs : Array Field} {fuel : Nat} {cs : List Value} {x : DataW H × List MemPlace} (ht : P.underlying t = some (.struct fs))
    (h : DataW.trod enc P W 0 (fun _ => true) true fuel t cs = some x) : cs.length = P.cellsOf t := by
  obtain ⟨xs, m, _, rfl, hl, hlen, hg⟩ := DataW.trod_struct ht h
  exact hl
end
section
variable {H : Type} {enc : TypeId × Value → H} {P : Program} {W : World} {S : DataW H → Prop} {N : Nat}
theorem open_slice_val {α : Type} {n : Nat} {E : World → List Value → α → Prop} {t e : TypeId} {v : Value} {d : DataW H} {p : List MemPlace} {base : Nat} (ht : P.underlying t = some (.slice e)) (hE : Opens enc P W S t (SliceC N n E))
    (hv : Value.okWide P W .any base t v) (h : DataW.Trod enc P W 0 (fun _ => true) true t v d p) (hs : S d) : ∃ l, SliceC N n E W [v] l := by
  obtain ⟨a, len, cap, rfl⟩ := okWide_slice ht hv
  obtain ⟨fuel, hf⟩ := h
  exact hE fuel _ _ (by simpa [Value.cells] using hf) hs
end
theorem SliceC.below {α : Type} {N n : Nat} {E : World → List Value → α → Prop} {w w' : World} {cs : List Value} {l : List α} (h : SliceC N n E w cs l) (hE : ∀ c a, E w c a → E w' c a) (hb : Below w.heap.size w w') : SliceC N n E w' cs l := by
  obtain ⟨a, cap, h0, h1, h2, h3, h4, h5⟩ := h
  refine ⟨a, cap, h0, h1, h2, h3, h4, fun hp => ?_⟩
  obtain ⟨b, off, e, hc⟩ := h5 hp
  refine ⟨b, off, e, fun i hi => ?_⟩
  obtain ⟨c, hl, hcc, he⟩ := hc i hi
  refine ⟨c, hl, fun j hj => ?_, hE _ _ he⟩
  have hs := hcc j hj
  rw [List.getElem?_eq_getElem (by omega)] at hs
  rw [hb.cell (World.block_lt_of_cell? w _ hs), hcc j hj]
def byt (s : ByteArray) (k : Nat) : Nat := (s.data.toList.getD k 0).toNat
theorem byt_get (s : ByteArray) (k : Nat) (h : k < s.size) : s[k].toNat = byt s k := by
  unfold byt
  rw [List.getD_eq_getElem?_getD, List.getElem?_eq_getElem (by simpa using h)]
  rfl
theorem below_draws (B : Nat) (w : World) (n : Nat) : Below B w (w.drewN n) := ⟨rfl, rfl, rfl, Nat.le_refl _, fun _ _ => rfl⟩
theorem toList_inj {a b : ByteArray} (h : a.toList = b.toList) : a = b := by
  rw [Lib.toList_data, Lib.toList_data] at h
  exact ByteArray.ext (Array.toList_inj.1 h)
theorem empty_t {a : ByteArray} (h : a.size = 0) : a.toList.isEmpty = true := by
  rw [Lib.toList_data, List.isEmpty_iff_length_eq_zero]; simpa using h
theorem empty_f {a : ByteArray} (h : a.size ≠ 0) : a.toList.isEmpty = false := by
  rw [Lib.toList_data, ← Bool.not_eq_true, List.isEmpty_iff_length_eq_zero]; simpa using h
def bl (l : List UInt8) (k : Nat) : Nat := (l.getD k 0).toNat
def ofL (l : List UInt8) : ByteArray := ⟨l.toArray⟩
theorem ofL_size (l : List UInt8) : (ofL l).size = l.length := by simp [ofL, ByteArray.size]
theorem ofL_data (l : List UInt8) : (ofL l).data.toList = l := by simp [ofL]
theorem ofL_of (s : ByteArray) : ofL s.data.toList = s := by
  apply ByteArray.ext; simp [ofL]
theorem ofL_append (a b : List UInt8) : ofL a ++ ofL b = ofL (a ++ b) := by
  apply ByteArray.ext; simp [ofL]
theorem ext_bytes {a b : ByteArray} (h : a.data.toList = b.data.toList) : a = b := ByteArray.ext (Array.toList_inj.1 h)
def byteV (c : UInt8) : Value := .int .u8 c.toNat
def OwnB (t : TypeId) (w : World) (B g cap : Nat) (l : List UInt8) : Prop := w.ownsRow B t 1 (.slice (some ⟨g, 0, none⟩) l.length cap) l.length (l.map byteV)
theorem OwnB.cell {t : TypeId} {w : World} {B g cap : Nat} {l : List UInt8} (h : OwnB t w B g cap l) {j : Nat} (hj : j < l.length) : w.cell? ⟨g, j, none⟩ = some (.int .u8 (bl l j)) := by
  rw [World.ownsRow.cellAt h j (by omega)]
  simp [bl, byteV, List.getD_eq_getElem?_getD, List.getElem?_eq_getElem hj]
theorem OwnB.lt {t : TypeId} {w : World} {B g cap : Nat} {l : List UInt8} (h : OwnB t w B g cap l) : B ≤ g ∧ g < w.heap.size := World.ownsRow.lt h g rfl
theorem OwnB.string {P : Program} {t : TypeId} {w : World} {B g cap : Nat} {l : List UInt8} (h : OwnB t w B g cap l) (src e dst : TypeId) (hs : P.underlying src = some (.slice e)) (he : P.underlying e = some (.int .u8)) (hd : P.underlying dst = some .string) :
    (convert src dst (.slice (some ⟨g, 0, none⟩) l.length cap)).run P w = .ok (.string (ofL l)) w := by
  have hx : strOfNums (l.map fun c => (c.toNat : Int)) = ofL l := by
    apply ext_bytes
    rw [strOfNums_data, ofL_data, List.map_map]
    conv => rhs; rw [← List.map_id l]
    apply List.map_congr_left
    intro c _
    simp
  rw [← hx]
  refine run_convert_bytes_arg w src e hs he g 0 l.length cap _ (by simp) (fun i hi => ?_) dst hd
  rw [Nat.zero_add, h.cell hi]
  simp [bl, List.getD_eq_getElem?_getD, List.getElem?_eq_getElem hi]
theorem bytes_cases {N : Nat} {w : World} {v : Value} {l : List UInt8} (h : SliceC N 1 ByteC w [v] l) : (∃ a cap, v = .slice a 0 cap ∧ l = []) ∨
    ∃ b off cap, v = .slice (some ⟨b, off, none⟩) l.length cap ∧ 0 < l.length ∧ l.length ≤ cap ∧ cap ≤ maxLen ∧ l.length ≤ N ∧ ∀ i, i < l.length → w.cell? ⟨b, off + i, none⟩ = some (.int .u8 (bl l i)) := by
  obtain ⟨a, cap, hv, h1, h2, h3, _, h4⟩ := h
  simp only [List.cons.injEq, and_true] at hv
  by_cases hl : 0 < l.length
  · obtain ⟨b, off, rfl, hc⟩ := h4 hl
    refine .inr ⟨b, off, cap, hv, hl, h1, h2, h3, fun i hi => ?_⟩
    obtain ⟨c, _, hcc, hE⟩ := hc i hi
    have := hcc 0 (by omega)
    rw [hE] at this
    simpa [bl, List.getD_eq_getElem?_getD, List.getElem?_eq_getElem hi] using this
  · have : l = [] := by
      cases l with
      | nil => rfl
      | cons x r => simp at hl
    subst this
    exact .inl ⟨a, cap, by simpa using hv, rfl⟩
theorem ret_i {a b : Int} (h : b = a) : Ending.returned (.int .i64 a) = .returned (.int .i64 b) := by rw [h]
theorem cellAt {W : World} {b k : Nat} {cs : Array Value} {t : TypeId} {fr : Nat × Nat} {v : Value} (h : W.heap[b]? = some (.cells cs t fr)) (hv : cs[k]? = some v) : W.cell? ⟨b, k, none⟩ = some v :=
  (cell_of_row W b k cs t fr h).trans hv
structure Rec where
  key : ByteArray
  value : ByteArray
structure Meta where
  mode : Int
  uid : Int
  gid : Int
  user : ByteArray
  group : ByteArray
  second : Int
  nano : Int
def Meta.cells (m : Meta) : List Value := [.int .i64 m.mode, .int .i64 m.uid, .int .i64 m.gid, .string m.user, .string m.group, .int .i64 m.second, .int .i64 m.nano]
def i64 (n : Int) : Prop := -9223372036854775808 ≤ n ∧ n ≤ 9223372036854775807
structure Meta.Ok (N : Nat) (m : Meta) : Prop where
  mode : i64 m.mode
  uid : i64 m.uid
  gid : i64 m.gid
  user : m.user.size ≤ N
  group : m.group.size ≤ N
  second : i64 m.second
  nano : i64 m.nano
def MetaC (N : Nat) (_ : World) (cs : List Value) (m : Meta) : Prop := cs = m.cells ∧ m.Ok N
end Go.Creel
namespace Go.Proofs.YtaffgndickdbiaaDoor
open Go.Creel Go.ChangeShapes
section
variable {H : Type} {enc : TypeId × Value → H} {W : World} {S : DataW H → Prop} {N : Nat}
theorem opens_Str (hS : Bd H S N) : Opens enc Tryd.prog W S 9 (StrC N) := opens_str hS Tryd.underlying9
theorem opens_Int : Opens enc Tryd.prog W S 3 IntC := opens_int Tryd.underlying3
theorem opens_Bytes (hS : Bd H S N) : Opens enc Tryd.prog W S 38 (SliceC N 1 ByteC) := opens_slice hS Tryd.underlying38 (by kernel_rfl) (by decide) (opens_byte Tryd.underlying5)
theorem opens_Meta (hS : Bd H S N) : Opens enc Tryd.prog W S 37 (MetaC N) := by
  intro fuel cs x h hx
  have hu := Tryd.underlying37
  have hl := (opens_len hu h).trans (show Tryd.prog.cellsOf 37 = 7 by kernel_rfl)
  obtain ⟨a0, h0⟩ := opens_field hS hu h hx 0 0 1 rfl rfl (by kernel_rfl) opens_Int
  obtain ⟨a1, h1⟩ := opens_field hS hu h hx 1 1 1 rfl rfl (by kernel_rfl) opens_Int
  obtain ⟨a2, h2⟩ := opens_field hS hu h hx 2 2 1 rfl rfl (by kernel_rfl) opens_Int
  obtain ⟨a3, h3⟩ := opens_field hS hu h hx 3 3 1 rfl rfl (by kernel_rfl) (opens_Str hS)
  obtain ⟨a4, h4⟩ := opens_field hS hu h hx 4 4 1 rfl rfl (by kernel_rfl) (opens_Str hS)
  obtain ⟨a5, h5⟩ := opens_field hS hu h hx 5 5 1 rfl rfl (by kernel_rfl) opens_Int
  obtain ⟨a6, h6⟩ := opens_field hS hu h hx 6 6 1 rfl rfl (by kernel_rfl) opens_Int
  obtain ⟨c0, c1, c2, c3, c4, c5, c6, rfl⟩ : ∃ c0 c1 c2 c3 c4 c5 c6, cs = [c0, c1, c2, c3, c4, c5, c6] := by
    match cs, hl with
    | [c0, c1, c2, c3, c4, c5, c6], _ => exact ⟨c0, c1, c2, c3, c4, c5, c6, rfl⟩
  simp [StrC, IntC] at h0 h1 h2 h3 h4 h5 h6
  exact ⟨⟨a0, a1, a2, a3, a4, a5, a6⟩, by rw [h0.1, h1.1, h2.1, h3.1, h4.1, h5.1, h6.1]; rfl, h0.2, h1.2, h2.2, h3.2, h4.2, h5.2, h6.2⟩
end
end Go.Proofs.YtaffgndickdbiaaDoor
namespace Go.Creel
structure Ent where
  path : ByteArray
  kind : Int
  target : ByteArray
  mt : Meta
  da : Option Addr
  dcap : Nat
  data : List UInt8
def Ent.cells (e : Ent) : List Value := [.string e.path, .int .i64 e.kind, .string e.target, .int .i64 e.mt.mode, .int .i64 e.mt.uid, .int .i64 e.mt.gid, .string e.mt.user, .string e.mt.group, .int .i64 e.mt.second, .int .i64 e.mt.nano, .slice e.da e.data.length e.dcap]
structure Ent.Ok (N : Nat) (w : World) (e : Ent) : Prop where
  path : e.path.size ≤ N
  kind : i64 e.kind
  target : e.target.size ≤ N
  mt : e.mt.Ok N
  data : SliceC N 1 ByteC w [.slice e.da e.data.length e.dcap] e.data
structure Nod where
  path : ByteArray
  kind : Int
  same : Int
  target : ByteArray
  mt : Meta
  da : Option Addr
  dcap : Nat
  data : List UInt8
def Nod.cells (e : Nod) : List Value := [.string e.path, .int .i64 e.kind, .int .i64 e.same, .string e.target, .int .i64 e.mt.mode, .int .i64 e.mt.uid, .int .i64 e.mt.gid, .string e.mt.user, .string e.mt.group, .int .i64 e.mt.second, .int .i64 e.mt.nano, .slice e.da e.data.length e.dcap]
structure Nod.Ok (N : Nat) (w : World) (e : Nod) : Prop where
  path : e.path.size ≤ N
  kind : i64 e.kind
  same : i64 e.same
  target : e.target.size ≤ N
  mt : e.mt.Ok N
  data : SliceC N 1 ByteC w [.slice e.da e.data.length e.dcap] e.data
def NodC (N : Nat) (w : World) (cs : List Value) (e : Nod) : Prop := cs = e.cells ∧ e.Ok N w
end Go.Creel
namespace Go.Proofs.YtaffgndickdbiaaDoor
open Go.Creel Go.ChangeShapes
section
variable {H : Type} {enc : TypeId × Value → H} {W : World} {S : DataW H → Prop} {N : Nat}
theorem opens_Node (hS : Bd H S N) : Opens enc Tryd.prog W S 60 (NodC N) := by
  intro fuel cs x h hx
  have hu := Tryd.underlying60
  have hl := (opens_len hu h).trans (show Tryd.prog.cellsOf 60 = 12 by kernel_rfl)
  obtain ⟨a0, h0⟩ := opens_field hS hu h hx 0 0 1 rfl rfl (by kernel_rfl) (opens_Str hS)
  obtain ⟨a1, h1⟩ := opens_field hS hu h hx 1 1 1 rfl rfl (by kernel_rfl) opens_Int
  obtain ⟨a5, h5⟩ := opens_field hS hu h hx 2 2 1 rfl rfl (by kernel_rfl) opens_Int
  obtain ⟨a2, h2⟩ := opens_field hS hu h hx 3 3 1 rfl rfl (by kernel_rfl) (opens_Str hS)
  obtain ⟨a3, h3⟩ := opens_field hS hu h hx 4 4 7 rfl rfl (by kernel_rfl) (opens_Meta hS)
  obtain ⟨a4, h4⟩ := opens_field hS hu h hx 5 11 1 rfl rfl (by kernel_rfl) (opens_Bytes hS)
  obtain ⟨c0, c1, c2, c3, c4, c5, c6, c7, c8, c9, c10, c11, rfl⟩ : ∃ c0 c1 c2 c3 c4 c5 c6 c7 c8 c9 c10 c11, cs = [c0, c1, c2, c3, c4, c5, c6, c7, c8, c9, c10, c11] := by
    match cs, hl with
    | [c0, c1, c2, c3, c4, c5, c6, c7, c8, c9, c10, c11], _ => exact ⟨c0, c1, c2, c3, c4, c5, c6, c7, c8, c9, c10, c11, rfl⟩
  simp only [StrC, IntC, MetaC, List.drop, List.take, Meta.cells, List.cons.injEq, and_true] at h0 h1 h2 h3 h5
  obtain ⟨da, dcap, hc, hr⟩ := h4
  have hc11 : c11 = .slice da a4.length dcap := by simpa using hc
  subst hc11
  obtain ⟨⟨rfl, rfl, rfl, rfl, rfl, rfl, rfl⟩, hm⟩ := h3
  exact ⟨⟨a0, a1, a5, a2, a3, da, dcap, a4⟩, by rw [h0.1, h1.1, h2.1, h5.1]; rfl, h0.2, h1.2, h5.2, h2.2, hm, ⟨da, dcap, rfl, hr⟩⟩
end
end Go.Proofs.YtaffgndickdbiaaDoor
namespace Go.Creel
def hasB (s : ByteArray) (c : UInt8) : Bool := s.data.toList.any (· == c)
def timeFault (s n : Int) : Int := if s < -1099511627776 ∨ 1099511627776 < s ∨ n < 0 ∨ 999999999 < n then 4 else 0
def metaFault (m : Meta) : Int :=
  if m.mode < 0 ∨ 4095 < m.mode ∨ m.uid < 0 ∨ 1125899906842624 < m.uid ∨ m.gid < 0 ∨ 1125899906842624 < m.gid then 4
  else if 60 < m.user.size ∨ 60 < m.group.size then 1
  else if hasB m.user 0 = true ∨ hasB m.group 0 = true then 3
  else timeFault m.second m.nano
abbrev Meta.val (m : Meta) : Value := .agg #[.int .i64 m.mode, .int .i64 m.uid, .int .i64 m.gid, .string m.user, .string m.group, .int .i64 m.second, .int .i64 m.nano]
open Go.RowKit
def AppTo (P : Program) (w : World) (t tx ty : TypeId) (v x : Value) (base e size n m : Nat) (xs news : List Value) : Prop :=
  ∃ v' w', (Builtin.append_ #[t, tx] ty #[v, x]).run P w = .ok v' w' ∧ w'.ownsRow base e size v' (n + m) (xs ++ news) ∧ w.grownBy w' v.ownBlock ∧ (v' = .slice none 0 0 ↔ v = .slice none 0 0 ∧ m = 0) ∧ (v'.ownBlock = v.ownBlock ∨ ∃ b, v'.ownBlock = some b ∧ w.heap.size ≤ b)
theorem setCells_row (g : Nat) {e : TypeId} : ∀ (vs : List Value) (o : Nat) (w : World) (cur : Array Value), w.heap[g]? = some (.cells cur e (0, 0)) → o + vs.length ≤ cur.size →
    ∃ cur' : Array Value, (w.setCells g o vs).heap[g]? = some (.cells cur' e (0, 0)) ∧ cur'.size = cur.size ∧ cur'.toList.take (o + vs.length) = cur.toList.take o ++ vs
  | [], o, w, cur, h, _ => ⟨cur, h, rfl, by simp⟩
  | v :: r, o, w, cur, h, hl => by
    have h1 := heap_setCell_same w g o cur e v h
    obtain ⟨cur', a1, a2, a3⟩ := setCells_row g r (o + 1) (w.setCell ⟨g, o, none⟩ v) _ h1 (by simp at hl ⊢; omega)
    refine ⟨cur', a1, by simpa using a2, ?_⟩
    have e1 : o + (v :: r).length = o + 1 + r.length := by simp; omega
    rw [e1, a3]
    have ho : o < cur.toList.length := by simp at hl ⊢; omega
    rw [Array.toList_setIfInBounds, List.take_succ_eq_append_getElem (by simpa using ho)]
    simp [List.take_set, List.getElem_set]
    exact List.set_eq_of_length_le (by simp; omega)
theorem setCells_other (g : Nat) : ∀ (vs : List Value) (o : Nat) (w : World) (k : Nat), k ≠ g → (w.setCells g o vs).heap[k]? = w.heap[k]?
  | [], _, _, _, _ => rfl
  | v :: r, o, w, k, h => by
    rw [World.setCells, setCells_other g r _ _ k h]
    exact heap_setCell_other w ⟨g, o, none⟩ k v (by simpa using h)
theorem setCells_meta (g : Nat) : ∀ (vs : List Value) (o : Nat) (w : World), (w.setCells g o vs).os = w.os ∧ (w.setCells g o vs).tape = w.tape ∧ (w.setCells g o vs).output = w.output ∧ (w.setCells g o vs).heap.size = w.heap.size
  | [], _, _ => ⟨rfl, rfl, rfl, rfl⟩
  | v :: r, o, w => by
    obtain ⟨h1, h2, h3, h4⟩ := setCells_meta g r (o + 1) (w.setCell ⟨g, o, none⟩ v)
    exact ⟨h1, h2, h3, by rw [World.setCells, h4]; simp⟩
section
variable {P : Program} (w : World)
theorem own_grown (base e size n m old : Nat) (z : Value) (xs news : List Value) (hzs : z.cells.size = size) (hxs : xs.length = n * size) (hl : news.length = m * size) (h63 : n + m ≤ maxLen) (ho : old < n + m) (hbase : base ≤ w.heap.size) (row : Option Nat) :
    (w.drew.alloc (.cells ((xs ++ news).toArray ++ Builtin.zeroCells z.cells (grownCap w (n + m) old e - (n + m))) e)).ownsRow base e size
      (.slice (some ⟨w.heap.size, 0, none⟩) (n + m) (grownCap w (n + m) old e)) (n + m) (xs ++ news) ∧
    w.grownBy (w.drew.alloc (.cells ((xs ++ news).toArray ++ Builtin.zeroCells z.cells (grownCap w (n + m) old e - (n + m))) e)) row := by
  have hge := grownCap_ge w (n + m) old e
  have hcm : grownCap w (n + m) old e ≤ maxLen := grownCap_le_maxLen w (n + m) old e h63
  have hlen : (xs ++ news).length = (n + m) * size := by rw [List.length_append, hxs, hl, Nat.add_mul]
  refine ⟨⟨hlen, .inr ⟨w.heap.size, _, _, rfl, hbase, heap_alloc_new w.drew _, hge, hcm, ?_, ?_⟩⟩, ⟨rfl, rfl, rfl, by simp, fun k hk _ => heap_alloc_old w.drew _ hk⟩⟩
  · simp only [Array.size_append, List.size_toArray, size_zeroCells, hzs, hlen, ← Nat.add_mul]
    congr 1
    omega
  · simp only [Array.toList_append]
    rw [← hlen]
    exact List.take_left
theorem own_room (base e size n m g cap : Nat) (cur : Array Value) (xs news : List Value) (hxs : xs.length = n * size) (hl : news.length = m * size) (hbg : base ≤ g) (hg : w.heap[g]? = some (.cells cur e (0, 0))) (hcm : cap ≤ maxLen) (hcs : cur.size = cap * size)
    (htake : cur.toList.take (n * size) = xs) (hroom : n + m ≤ cap) :
    (w.setCells g (n * size) news).ownsRow base e size (.slice (some ⟨g, 0, none⟩) (n + m) cap) (n + m) (xs ++ news) ∧ w.grownBy (w.setCells g (n * size) news) (some g) := by
  have hfit : n * size + news.length ≤ cur.size := by rw [hl, hcs, ← Nat.add_mul]; exact Nat.mul_le_mul_right _ hroom
  obtain ⟨cur', a1, a2, a3⟩ := setCells_row g news (n * size) w cur hg hfit
  obtain ⟨m1, m2, m3, m4⟩ := setCells_meta g news (n * size) w
  refine ⟨⟨by rw [List.length_append, hxs, hl, Nat.add_mul], .inr ⟨g, cap, cur', rfl, hbg, a1, hroom, hcm, a2.trans hcs, ?_⟩⟩, ⟨m1, m2, m3, by omega, fun k _ hk => setCells_other g news _ w k (fun e => hk (by rw [e]))⟩⟩
  rw [← htake, ← a3, hl, ← Nat.add_mul]
theorem app_src (t tx ty base e : TypeId) (i : TypeInfo) (z : Value) (size bytes : Nat) (ht : P.underlying t = some (.slice e)) (hi : P.info? e = some i) (hz : i.zero = some z)
    (hsize : i.size = size) (hby : i.bytes = bytes) (hzs : z.cells.size = size) (hsz : 0 < size)
    (v x : Value) (n m : Nat) (xs news : List Value) (hown : w.ownsRow base e size v n xs) (hs : Src P size tx x m news w)
    (h63 : n + m ≤ maxLen) (hbytes : (n + m) * bytes ≤ 140737488355328) (hbase : base ≤ w.heap.size) : AppTo P w t tx ty v x base e size n m xs news := by
  subst hsize
  subst hby
  have hsmall : n + m ≤ 9223372036854775807 := by simp only [maxLen] at h63; omega
  rcases hown.2 with ⟨rfl, rfl⟩ | ⟨g, cap, cur, rfl, hbg, hg, hnc, hcm, hcs, htake⟩
  · have hx : xs = [] := List.eq_nil_of_length_eq_zero (by simpa using hown.1)
    subst hx
    by_cases hm : m = 0
    · subst hm
      have hn : news = [] := List.eq_nil_of_length_eq_zero (by simpa using hs.newsLen)
      subst hn
      refine ⟨.slice none 0 0, w, ?_, World.ownsRow_nil w base e i.size, ⟨rfl, rfl, rfl, Nat.le_refl _, fun _ _ _ => rfl⟩, ⟨by simp, .inl rfl⟩⟩
      rcases hs.kind with ⟨e', hk⟩ | hk <;> simp [Builtin.append_, run_underlying ht, run_underlying hk, sizeOf, typeInfo, hi, hs.len, hs.cells]
    · have hold : (Builtin.firstCells i.size 0 (.slice none 0 0)).run P w.drew = .ok ([] : List Value).toArray w.drew := run_firstCells_none w.drew i.size 0 0 0
      have hr := run_append_grow_src (P := P) w t tx ty e i z ht hi hz none 0 0 [] hold x m news hs (by omega) (by omega) (growslice_fits (by omega) (by simpa using hbytes))
      have hgr := own_grown w base e i.size 0 m 0 z [] news hzs (by simp) hs.newsLen h63 (by omega) hbase none
      exact ⟨_, _, hr, hgr.1, hgr.2, ⟨by simp [hm], .inr ⟨_, rfl, Nat.le_refl _⟩⟩⟩
  · by_cases hroom : n + m ≤ cap
    · have hfit : n * i.size + news.length ≤ cur.size := by rw [hs.newsLen, hcs, ← Nat.add_mul]; exact Nat.mul_le_mul_right _ hroom
      have hr := run_append_room_src (P := P) w t tx ty e i ht hi g 0 n cap x m news hs hroom
        (fun j hj => by rw [cell_of_row w g _ cur e (0, 0) hg, Nat.zero_add, Array.getElem?_eq_getElem (by omega)]; rfl) (fun j _ => frozen_of_row w g _ cur e hg)
      rw [Nat.zero_add] at hr
      have ho := own_room w base e i.size n m g cap cur xs news hown.1 hs.newsLen hbg hg hcm hcs htake hroom
      exact ⟨_, _, hr, ho.1, ho.2, ⟨by simp, .inl rfl⟩⟩
    · have holds : ∀ j u, xs[j]? = some u → w.drew.cell? ((⟨g, 0, none⟩ : Addr).add j) = some u := fun j u hu => hown.cells (g := g) rfl j u hu
      have hold := run_firstCells_some (P := P) w.drew i.size n ⟨g, 0, none⟩ n cap xs hown.1 holds
      have hr := run_append_grow_src (P := P) w t tx ty e i z ht hi hz (some ⟨g, 0, none⟩) n cap xs hold x m news hs (by omega) (by omega) (growslice_fits (by omega) hbytes)
      have hgr := own_grown w base e i.size n m cap z xs news hzs hown.1 hs.newsLen h63 (by omega) hbase (some g)
      exact ⟨_, _, hr, hgr.1, hgr.2, ⟨by simp, .inr ⟨_, rfl, Nat.le_refl _⟩⟩⟩
theorem wpList_app {ops : Array Oper} {rest : List Oper} {o : Oper} {a : Act} {Q : Exit → Act → World → Prop} (hgd : o.guard = none) (s x : Operand) (t tx : TypeId)
    (ho : o.op = .call { callee := .builtin .append, args := #[s, x], argTypes := #[t, tx] }) (vs vx : Value) (hs : a.eval s = vs) (hx : a.eval x = vx) {base e size n m : Nat} {xs news : List Value}
    (happ : ∀ ty, AppTo P w t tx ty vs vx base e size n m xs news)
    (h : ∀ v' w', w'.ownsRow base e size v' (n + m) (xs ++ news) → w.grownBy w' vs.ownBlock → ((v' = .slice none 0 0 ↔ vs = .slice none 0 0 ∧ m = 0) ∧ (v'.ownBlock = vs.ownBlock ∨ ∃ b, v'.ownBlock = some b ∧ w.heap.size ≤ b)) → wpList P ops Q rest (a.put o.dst v') w') : wpList P ops Q (o :: rest) a w := by
  obtain ⟨v', w', hr, h1, h2, h3⟩ := happ o.type
  exact Lib.wpList_append_run w hgd s x t tx ho vs vx hs hx v' w' hr (h v' w' h1 h2 h3)
end
def OwnBs (t : TypeId) (w : World) (B : Nat) (v : Value) (l : List UInt8) : Prop := w.ownsRow B t 1 v l.length (l.map byteV)
theorem OwnBs.nil (t : TypeId) (w : World) (B : Nat) : OwnBs t w B (.slice none 0 0) [] := World.ownsRow_nil w B t 1
theorem OwnBs.slice {t : TypeId} {w : World} {B N : Nat} {v : Value} {l : List UInt8} (h : OwnBs t w B v l) (hN : l.length ≤ N) : SliceC N 1 ByteC w [v] l := by
  rcases h.2 with ⟨rfl, h0⟩ | ⟨g, cap, cur, rfl, hbg, hg, hnc, hcm, hcs, htake⟩
  · obtain rfl : l = [] := List.eq_nil_of_length_eq_zero h0
    exact ⟨none, 0, rfl, by simp, by simp, by simp, fun _ => rfl, fun h => absurd h (by simp)⟩
  · refine ⟨some ⟨g, 0, none⟩, cap, rfl, hnc, hcm, hN, (fun h => by cases h), fun _ => ⟨g, 0, rfl, fun i hi => ⟨[byteV l[i]], rfl, fun j hj => ?_, rfl⟩⟩⟩
    obtain rfl : j = 0 := by omega
    have := OwnB.cell (t := t) (w := w) (B := B) (g := g) (cap := cap) (l := l) h hi
    simp only [Nat.zero_add, Nat.mul_one, Nat.add_zero]
    rw [this]
    simp [bl, byteV, List.getD_eq_getElem?_getD, List.getElem?_eq_getElem hi]
theorem OwnBs.form {t : TypeId} {w : World} {B : Nat} {v : Value} {l : List UInt8} (h : OwnBs t w B v l) : (v = .slice none 0 0 ∧ l = []) ∨ ∃ g cap, v = .slice (some ⟨g, 0, none⟩) l.length cap ∧ OwnB t w B g cap l := by
  rcases h.2 with ⟨rfl, h0⟩ | ⟨g, cap, cur, rfl, hbg, hg, hnc, hcm, hcs, htake⟩
  · exact .inl ⟨rfl, List.eq_nil_of_length_eq_zero h0⟩
  · exact .inr ⟨g, cap, rfl, h⟩
theorem src_bytes {P : Program} {w : World} {N : Nat} {v : Value} {l : List UInt8} {tx e' : TypeId} (hk : P.underlying tx = some (.slice e')) (h : SliceC N 1 ByteC w [v] l) : Src P 1 tx v l.length (l.map byteV) w := by
  have hone : ∀ u ∈ l.map byteV, u.oneCell' = true := by
    intro u hu
    obtain ⟨_, _, rfl⟩ := List.mem_map.1 hu
    rfl
  rcases bytes_cases h with ⟨a, cap, rfl, rfl⟩ | ⟨b, off, cap, rfl, hpos, hle, hm, _, hc⟩
  · cases a with
    | none => exact Src.ofNil w hk cap
    | some a => exact Src.ofSlice w hk a 0 cap [] (by simp) (fun j u hu => by simp at hu) (fun u hu => by simp at hu)
  · refine Src.ofSlice w hk ⟨b, off, none⟩ l.length cap (l.map byteV) (by simp) (fun j u hu => ?_) hone
    have hj : j < l.length := by
      rcases Nat.lt_or_ge j l.length with h | h
      · exact h
      · rw [List.getElem?_eq_none (by simpa using h)] at hu; cases hu
    have e : (⟨b, off, none⟩ : Addr).add j = ⟨b, off + j, none⟩ := by unfold Addr.add; split <;> simp_all
    rw [e, hc j hj]
    simp [List.getElem?_eq_getElem hj] at hu
    rw [← hu]
    simp [bl, byteV, List.getD_eq_getElem?_getD, List.getElem?_eq_getElem hj]
theorem app_bytes {P : Program} (w : World) (t tx e e' : TypeId) (i : TypeInfo) (ht : P.underlying t = some (.slice e)) (htx : P.underlying tx = some (.slice e')) (hi : P.info? e = some i) (hz : i.zero = some (.int .u8 0)) (h1 : i.size = 1) (hb : i.bytes = 1)
    {B N : Nat} {v x : Value} {l m : List UInt8} (hv : OwnBs e w B v l) (hx : SliceC N 1 ByteC w [x] m) (hbound : l.length + m.length ≤ 140737488355328) (hB : B ≤ w.heap.size) (ty : TypeId) :
    AppTo P w t tx ty v x B e 1 l.length m.length (l.map byteV) (m.map byteV) :=
  app_src w t tx ty B e i (.int .u8 0) 1 1 ht hi hz h1 hb rfl (by decide) v x l.length m.length _ _ hv (src_bytes htx hx) (by unfold maxLen; omega) (by omega) hB
theorem OwnBs.app {t : TypeId} {w' : World} {B : Nat} {v' : Value} {l m : List UInt8} (h : w'.ownsRow B t 1 v' (l.length + m.length) (l.map byteV ++ m.map byteV)) : OwnBs t w' B v' (l ++ m) := by
  unfold OwnBs
  rw [List.length_append, List.map_append]
  exact h
theorem below_app {B : Nat} {w0 w w' : World} {e size n : Nat} {v : Value} {xs : List Value} (hb : Below B w0 w) (hg : w.grownBy w' v.ownBlock) (hv : w.ownsRow B e size v n xs) (hB : B ≤ w.heap.size) : Below B w0 w' :=
  hb.grown hg hB (fun k hk => (World.ownsRow.lt hv k hk).1)
theorem src_one {P : Program} (w : World) (tx e' e : TypeId) (hk : P.underlying tx = some (.slice e')) (c : Value) (hc : c.oneCell' = true) : Src P 1 tx (.slice (some ⟨w.heap.size, 0, none⟩) 1 1) 1 [c] (w.alloc (.cells #[c] e)) := by
  refine Src.ofSlice _ hk ⟨w.heap.size, 0, none⟩ 1 1 [c] rfl (fun j u hu => ?_) (fun u hu => by simp at hu; rw [hu]; exact hc)
  match j, hu with
  | 0, hu =>
    simp at hu
    subst hu
    simp [Addr.add]
end Go.Creel
namespace Go.Proofs
open Go.Shelf
def Tryd.lays146_ren : Go.Shelf.Ren := ⟨fun | 146 => 105 | 221 => 117 | 268 => 134 | 138 => 135 | 143 => 136 | 195 => 151 | 197 => 152 | 218 => 153 | 219 => 154 | 260 => 161 | 217 => 111 | 225 => 162 | 224 => 163 | 267 => 164 | 266 => 119 | 314 => 166 | n => n, fun | 9 => 9 | 31 => 44 | 3 => 3 | 4 => 4 | 0 => 0 | 105 => 179 | 21 => 21 | 5 => 5 | 46 => 140 | 119 => 191 | 139 => 194 | 138 => 193 | 146 => 173 | 51 => 170 | n => n, fun | 1 => 0 | 3 => 4 | 4 => 5 | n => n⟩
theorem Tryd.lays146 : Go.Proofs.Lays.n146 Tryd.prog Tryd.lays146_ren := {
  mixed := by kernel_rfl
  f138 := Tryd.func135.trans (congrArg some (by kernel_rfl))
  f143 := Tryd.func136.trans (congrArg some (by kernel_rfl))
  f146 := Tryd.func105.trans (congrArg some (by kernel_rfl))
  f195 := Tryd.func151.trans (congrArg some (by kernel_rfl))
  f197 := Tryd.func152.trans (congrArg some (by kernel_rfl))
  f217 := Tryd.func111.trans (congrArg some (by kernel_rfl))
  f218 := Tryd.func153.trans (congrArg some (by kernel_rfl))
  f219 := Tryd.func154.trans (congrArg some (by kernel_rfl))
  f221 := Tryd.func117.trans (congrArg some (by kernel_rfl))
  f224 := Tryd.func163.trans (congrArg some (by kernel_rfl))
  f225 := Tryd.func162.trans (congrArg some (by kernel_rfl))
  f260 := Tryd.func161.trans (congrArg some (by kernel_rfl))
  f266 := Tryd.func119.trans (congrArg some (by kernel_rfl))
  f267 := Tryd.func164.trans (congrArg some (by kernel_rfl))
  f268 := Tryd.func134.trans (congrArg some (by kernel_rfl))
  f314 := Tryd.func166.trans (congrArg some (by kernel_rfl))
  t0 := Tryd.underlying0
  a0 := Tryd.isAgg0
  z0 := Tryd.sizeOf0
  v0 := Tryd.zeroValue0
  t3 := Tryd.underlying3
  a3 := Tryd.isAgg3
  z3 := Tryd.sizeOf3
  v3 := Tryd.zeroValue3
  t4 := Tryd.underlying4
  a4 := Tryd.isAgg4
  z4 := Tryd.sizeOf4
  v4 := Tryd.zeroValue4
  t5 := Tryd.underlying5
  a5 := Tryd.isAgg5
  z5 := Tryd.sizeOf5
  v5 := Tryd.zeroValue5
  t9 := Tryd.underlying9
  a9 := Tryd.isAgg9
  z9 := Tryd.sizeOf9
  v9 := Tryd.zeroValue9
  t21 := Tryd.underlying21
  a21 := Tryd.isAgg21
  z21 := Tryd.sizeOf21
  v21 := Tryd.zeroValue21
  t31 := Tryd.underlying44
  a31 := Tryd.isAgg44
  z31 := Tryd.sizeOf44
  v31 := Tryd.zeroValue44
  t46 := Tryd.underlying140
  a46 := Tryd.isAgg140
  z46 := Tryd.sizeOf140
  v46 := Tryd.zeroValue140
  t51 := Tryd.underlying170
  a51 := Tryd.isAgg170
  z51 := Tryd.sizeOf170
  v51 := Tryd.zeroValue170
  t105 := Tryd.underlying179
  a105 := Tryd.isAgg179
  z105 := Tryd.sizeOf179
  v105 := Tryd.zeroValue179
  t119 := Tryd.underlying191
  a119 := Tryd.isAgg191
  z119 := Tryd.sizeOf191
  t138 := Tryd.underlying193
  a138 := Tryd.isAgg193
  z138 := Tryd.sizeOf193
  v138 := Tryd.zeroValue193
  t139 := Tryd.underlying194
  a139 := Tryd.isAgg194
  z139 := Tryd.sizeOf194
  v139 := Tryd.zeroValue194
  t146 := Tryd.underlying173
  a146 := Tryd.isAgg173
  z146 := Tryd.sizeOf173
  v146 := Tryd.zeroValue173
  g1 := by kernel_rfl
  g3 := by kernel_rfl
  g4 := by kernel_rfl }
open Go.RowKit Go.Lib in
theorem Tryd.strings_Split (s sep : ByteArray) (m : Int) (w : World) (hs : s.size < 4294967281) (hm : w.cell? ⟨0, 0, none⟩ = some (.int .i64 m)) (h1 : 1 ≤ sep.size) :
    Calls Tryd.prog 105 #[.string s, .string sep] w fun e w' =>
      e = .returned (.slice (some ⟨w.heap.size, 0, none⟩) (Lib.countB s sep + 1) (Lib.countB s sep + 1)) ∧ w' = w.alloc (.cells ((Lib.splitB sep 0 (Lib.countB s sep) s).map Value.string).toArray 9) := Any.strings_Split Tryd.lays146 (by kernel_rfl) s sep m w hs hm h1
end Go.Proofs
