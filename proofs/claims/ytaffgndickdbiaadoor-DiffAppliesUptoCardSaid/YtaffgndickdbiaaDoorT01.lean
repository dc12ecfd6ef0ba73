/-
  Texts: Base, Data, Nodes, Text.
-/
import Derived.WalkKit
import Derived.ProofKit
import Derived.ChangeOld
import Derived.Lib.Hide
import Derived.WalkLawsBesides
import Derived.WalkSpells
import Derived.ShutString
import Derived.OpenShut
import Derived.Deep.Slices
import Derived.Deep.Fields
import Derived.Lib.Strings
import Derived.Deep.QuietTactic
import Derived.BigQuiet
import Derived.Test.YtaffgndickdbiaaDoorRows
set_option linter.unusedVariables false
set_option linter.unusedSimpArgs false
set_option linter.unusedSectionVars false
namespace Go.Creel
open Go.ChangeShapes Go.WideShapes Go.ChangeAt Go.RowKit Go.Deep
open Go.ChangeMaps (open_string)
section
variable {H : Type} {enc : TypeId × Value → H} {P : Program}
theorem trodAll_below (hl : laidOutB P = true) {W W' : World} (hb : Below W.heap.size W W') :
    ∀ {ts : List TypeId} {vs : List Value} {ds : List (DataW H)} {ps : List MemPlace}, (ts.all fun t => P.readableRec t && decide (t < P.types.size)) = true →
      DataW.TrodAll enc P W 0 (fun _ => true) true ts vs ds ps → (∀ x ∈ ps, x.block < W.heap.size) → DataW.TrodAll enc P W' 0 (fun b => decide (b < W.heap.size)) true ts vs ds ps
  | [], vs, ds, ps, _, h, _ => by
    obtain ⟨rfl, rfl, rfl⟩ := trodAll_nil h
    exact trodAll_mk0
  | t :: ts, vs, ds, ps, hr, h, hlt => by
    obtain ⟨v, vs', d, ds', p, q, rfl, rfl, rfl, h0, h1⟩ := trodAll_cons h
    simp only [List.all_cons, Bool.and_eq_true, decide_eq_true_eq] at hr
    exact trodAll_cons_mk (Below.trod hl hr.1.1 hr.1.2 h0 hb (fun x hx => hlt x (by simp [hx]))) (trodAll_below hl hb (by simpa using hr.2) h1 (fun x hx => hlt x (by simp [hx])))
theorem trodAll_lt {W : World} : ∀ {ts : List TypeId} {vs : List Value} {ds : List (DataW H)} {ps : List MemPlace},
      DataW.TrodAll enc P W 0 (fun _ => true) true ts vs ds ps → ∀ x ∈ ps, x.block < W.heap.size
  | [], vs, ds, ps, h => by
    obtain ⟨rfl, rfl, rfl⟩ := trodAll_nil h
    simp
  | t :: ts, vs, ds, ps, h => by
    obtain ⟨v, vs', d, ds', p, q, rfl, rfl, rfl, ⟨m, h0⟩, h1⟩ := trodAll_cons h
    intro x hx
    rcases List.mem_append.1 hx with hx | hx
    · exact DataW.trod_lt m _ _ _ h0 x hx
    · exact trodAll_lt h1 x hx
theorem law_post {fn : Func} {s : ChangeSpec} {tb : TypeId} {W W' : World} {args : Array Value} {ds gs : List (DataW H)} {before : List MemPlace} (hl : laidOutB P = true)
    (hr : (fn.params.toList.all fun t => P.readableRec t && decide (t < P.types.size)) = true) (hres : fn.resultTypes = #[tb]) (htb : P.underlying tb = some .bool) (hv : s.vars = [])
    (hs : s.fn H (ds ++ gs) = { results := [.lit (.bool true)], args := ds })
    (hW : DataW.Whole enc P fn.params.toList s.vars false W args.toList ds gs before) (bel : Below W.heap.size W W') : s.post enc P fn false true false false W args (.bool true) W' := by
  have hW' := hW
  obtain ⟨p, q, hA, hV, rfl, hfz, hnd⟩ := hW
  rw [hv] at hV
  obtain ⟨rfl, rfl⟩ := trodVars_none hV
  refine ⟨ds, [], _, [], p, [], hW', ?_, ?_, ?_, bel.frame _, fun h => by cases h⟩
  · rw [hs, hres]
    exact trodAll_mk1 (shut_bool htb _)
  · rw [hs]
    exact trodAll_below hl bel hr hA (trodAll_lt hA)
  · rw [hs, hv]
    rfl
end
structure Bd (H : Type) (S : DataW H → Prop) (N : Nat) : Prop where
  str : ∀ l, S (.lit (.string l)) → l.length ≤ maxLen → l.length ≤ N
  slc : ∀ el sp, S (.slice el sp) → el.length + sp.length ≤ maxLen → el.length ≤ N ∧ ∀ d ∈ el, S d
  agg : ∀ ps, S (.agg ps) → ∀ d ∈ ps, S d
theorem Bd.any (H : Type) : Bd H (fun _ => True) maxLen := ⟨fun _ _ h => h, fun _ _ _ h => ⟨by omega, fun _ _ => trivial⟩, fun _ _ _ _ => trivial⟩
def Opens {H : Type} (enc : TypeId × Value → H) (P : Program) (W : World) (S : DataW H → Prop) (t : TypeId) {α : Type} (E : World → List Value → α → Prop) : Prop :=
  ∀ (fuel : Nat) (cs : List Value) (x : DataW H × List MemPlace), DataW.trod enc P W 0 (fun _ => true) true fuel t cs = some x → S x.1 → ∃ a, E W cs a
def IntC (_ : World) (cs : List Value) (n : Int) : Prop := cs = [.int .i64 n] ∧ -9223372036854775808 ≤ n ∧ n ≤ 9223372036854775807
def ByteC (_ : World) (cs : List Value) (n : UInt8) : Prop := cs = [.int .u8 n.toNat]
def StrC (N : Nat) (_ : World) (cs : List Value) (s : ByteArray) : Prop := cs = [.string s] ∧ s.size ≤ N
def w_cells (w : World) (a : Addr) (i n : Nat) (c : List Value) : Prop := c.length = n ∧ ∀ j, j < n → w.cell? ((a.add (i * n)).add j) = c[j]?
def SliceC {α : Type} (N n : Nat) (E : World → List Value → α → Prop) (w : World) (cs : List Value) (l : List α) : Prop :=
  ∃ (a : Option Addr) (cap : Nat), cs = [.slice a l.length cap] ∧ l.length ≤ cap ∧ cap ≤ maxLen ∧ l.length ≤ N ∧ (a = none → cap = 0) ∧
    (0 < l.length → ∃ b off, a = some ⟨b, off, none⟩ ∧ ∀ i (h : i < l.length), ∃ c, c.length = n ∧ (∀ j, j < n → w.cell? ⟨b, off + i * n + j, none⟩ = c[j]?) ∧ E w c l[i])
section
variable {H : Type} {enc : TypeId × Value → H} {P : Program} {W : World} {S : DataW H → Prop} {N : Nat}
theorem opens_int {t : TypeId} (ht : P.underlying t = some (.int .i64)) : Opens enc P W S t IntC := by
  intro fuel cs x h _
  obtain ⟨n, rfl, _, hw⟩ := DataW.trod_int ht h
  exact ⟨n, rfl, bounds_i64 hw⟩
theorem opens_byte {t : TypeId} (ht : P.underlying t = some (.int .u8)) : Opens enc P W S t ByteC := by
  intro fuel cs x h _
  obtain ⟨n, rfl, _, hw⟩ := DataW.trod_int ht h
  have := bounds_u8 hw
  refine ⟨UInt8.ofNat n.toNat, ?_⟩
  have h1 : (UInt8.ofNat n.toNat).toNat = n.toNat := by simp; omega
  show [Value.int .u8 n] = [.int .u8 ((UInt8.ofNat n.toNat).toNat : Int)]
  rw [h1, Int.toNat_of_nonneg this.1]
theorem opens_str (hS : Bd H S N) {t : TypeId} (ht : P.underlying t = some .string) : Opens enc P W S t (StrC N) := by
  intro fuel cs x h hx
  obtain ⟨s, rfl, rfl, hs⟩ := DataW.trod_string ht h
  have := hS.str _ hx (by simpa using hs)
  exact ⟨s, rfl, by simpa using this⟩
theorem list_of {α : Type} {n : Nat} {p : Nat → α → Prop} (h : ∀ i, i < n → ∃ a, p i a) : ∃ l : List α, l.length = n ∧ ∀ i (hi : i < l.length), p i l[i] := by
  induction n with
  | zero => exact ⟨[], rfl, fun i hi => absurd hi (by simp)⟩
  | succ n ih =>
    obtain ⟨l, hl, hp⟩ := ih (fun i hi => h i (by omega))
    obtain ⟨a, ha⟩ := h n (by omega)
    refine ⟨l ++ [a], by simp [hl], fun i hi => ?_⟩
    by_cases e : i < l.length
    · rw [List.getElem_append_left e]; exact hp i e
    · have : i = n := by simp at hi; omega
      subst this
      rw [List.getElem_append_right (by omega)]
      simpa [hl] using ha
theorem opens_slice {α : Type} {E : World → List Value → α → Prop} {n : Nat} (hS : Bd H S N) {t e : TypeId} (ht : P.underlying t = some (.slice e)) (hn : P.cellsOf e = n) (hpos : 0 < n) (hE : Opens enc P W S e E) : Opens enc P W S t (SliceC N n E) := by
  intro fuel cs x h hx
  rcases open_slice ht h with ⟨rfl, rfl⟩ | ⟨a, len, cap, m, n', D, Pl, rfl, _, hl, hm, hmm, rfl, hi⟩
  · exact ⟨[], none, 0, rfl, by simp, by simp, by simp, fun _ => rfl, fun h => absurd h (by simp)⟩
  · simp only [if_true] at hmm
    subst hmm
    have hb := hS.slc _ _ hx (by simp; omega)
    have hel : ∀ i, i < len → ∃ x : α, ∃ c, w_cells W a i n c ∧ E W c x := by
      intro i hlt
      obtain ⟨c, hc, ht'⟩ := hi i (by omega)
      rw [hn] at hc
      obtain ⟨_, hcl, hat⟩ := World.cells?_some hc
      obtain ⟨y, hy⟩ := hE _ _ _ ht' (hb.2 _ (List.mem_map.2 ⟨i, List.mem_range.2 hlt, rfl⟩))
      exact ⟨y, c, ⟨hcl, hat⟩, hy⟩
    obtain ⟨l, hll, hlp⟩ := list_of hel
    refine ⟨l, some a, m, by rw [hll], by omega, hm, by have := hb.1; simp at this; omega, (fun h => by cases h), fun hpos' => ?_⟩
    obtain ⟨b, off, spot⟩ := a
    obtain ⟨c, ⟨hcl, hat⟩, _⟩ := hlp 0 hpos'
    have hc0 := hat 0 (by omega)
    have hspot : spot = none := by
      rw [List.getElem?_eq_getElem (by omega)] at hc0
      simpa [Addr.add] using World.cell?_spot hc0
    subst hspot
    refine ⟨b, off, rfl, fun i hi => ?_⟩
    obtain ⟨c, ⟨hcl, hat⟩, he⟩ := hlp i hi
    refine ⟨c, hcl, fun j hj => ?_, he⟩
    rw [← hat j hj]
    congr 1
    simp only [Addr.add]
    by_cases h1 : i * n = 0 <;> by_cases h2 : j = 0 <;> simp [h1, h2]
theorem opens_field {t : TypeId} {fs : Array Field} {α : Type} {E : World → List Value → α → Prop} {fuel : Nat} {cs : List Value} {x : DataW H × List MemPlace} (hS : Bd H S N) (ht : P.underlying t = some (.struct fs))
    (h : DataW.trod enc P W 0 (fun _ => true) true fuel t cs = some x) (hx : S x.1) (i o n : Nat) {f : Field} (hf : fs[i]? = some f) (ho : f.offset = o) (hn : P.cellsOf f.type = n) (hE : Opens enc P W S f.type E) : ∃ a, E W ((cs.drop o).take n) a := by
  subst ho
  obtain ⟨xs, m, _, rfl, hl, hlen, hg⟩ := DataW.trod_struct ht h
  have hlt : i < fs.size := (Array.getElem?_eq_some_iff.1 hf).1
  have h1 := hg i f hf
  rw [hn, List.getElem?_eq_getElem (by omega)] at h1
  exact hE _ _ _ h1 (hS.agg _ hx _ (List.mem_map.2 ⟨_, List.getElem_mem _, rfl⟩))
theorem opens_len {t : TypeId} {fs : Array Field} {fuel : Nat} {cs : List Value} {x : DataW H × List MemPlace} (ht : P.underlying t = some (.struct fs))
    (h : DataW.trod enc P W 0 (fun _ => true) true fuel t cs = some x) : cs.length = P.cellsOf t := by
  obtain ⟨xs, m, _, rfl, hl, hlen, hg⟩ := DataW.trod_struct ht h
  exact hl
end
section
variable {H : Type} {enc : TypeId × Value → H} {P : Program} {W : World} {S : DataW H → Prop} {N : Nat}
theorem open_slice_val {α : Type} {n : Nat} {E : World → List Value → α → Prop} {t e : TypeId} {v : Value} {d : DataW H} {p : List MemPlace} {base : Nat} (ht : P.underlying t = some (.slice e)) (hE : Opens enc P W S t (SliceC N n E))
    (hv : Value.okWide P W .any base t v) (h : DataW.Trod enc P W 0 (fun _ => true) true t v d p) (hs : S d) : ∃ l, SliceC N n E W [v] l := by
  obtain ⟨a, len, cap, rfl⟩ := okWide_slice ht hv
  obtain ⟨fuel, hf⟩ := h
  exact hE fuel _ _ (by simpa [Value.cells] using hf) hs
end
theorem SliceC.below {α : Type} {N n : Nat} {E : World → List Value → α → Prop} {w w' : World} {cs : List Value} {l : List α} (h : SliceC N n E w cs l) (hE : ∀ c a, E w c a → E w' c a) (hb : Below w.heap.size w w') : SliceC N n E w' cs l := by
  obtain ⟨a, cap, h0, h1, h2, h3, h4, h5⟩ := h
  refine ⟨a, cap, h0, h1, h2, h3, h4, fun hp => ?_⟩
  obtain ⟨b, off, e, hc⟩ := h5 hp
  refine ⟨b, off, e, fun i hi => ?_⟩
  obtain ⟨c, hl, hcc, he⟩ := hc i hi
  refine ⟨c, hl, fun j hj => ?_, hE _ _ he⟩
  have hs := hcc j hj
  rw [List.getElem?_eq_getElem (by omega)] at hs
  rw [hb.cell (World.block_lt_of_cell? w _ hs), hcc j hj]
def byt (s : ByteArray) (k : Nat) : Nat := (s.data.toList.getD k 0).toNat
theorem byt_get (s : ByteArray) (k : Nat) (h : k < s.size) : s[k].toNat = byt s k := by
  unfold byt
  rw [List.getD_eq_getElem?_getD, List.getElem?_eq_getElem (by simpa using h)]
  rfl
theorem below_draws (B : Nat) (w : World) (n : Nat) : Below B w (w.drewN n) := ⟨rfl, rfl, rfl, Nat.le_refl _, fun _ _ => rfl⟩
theorem bcell {W w1 : World} (hb : Below W.heap.size W w1) : (∀ b o, b < W.heap.size → w1.cell? ⟨b, o, none⟩ = W.cell? ⟨b, o, none⟩) ∧ (∀ b o, b < W.heap.size → w1.frozen? ⟨b, o, none⟩ = W.frozen? ⟨b, o, none⟩) :=
  ⟨fun b o h => hb.cell (p := ⟨b, o, none⟩) h, fun b o h => hb.frozen (p := ⟨b, o, none⟩) h⟩
theorem seq_t {a b : ByteArray} (h : a = b) : (a.toList == b.toList) = true := by subst h; simp
theorem toList_inj {a b : ByteArray} (h : a.toList = b.toList) : a = b := by
  rw [Lib.toList_data, Lib.toList_data] at h
  exact ByteArray.ext (Array.toList_inj.1 h)
theorem seq_f {a b : ByteArray} (h : a ≠ b) : (a.toList == b.toList) = false := by
  rw [beq_eq_false_iff_ne]
  exact fun e => h (toList_inj e)
theorem empty_t {a : ByteArray} (h : a.size = 0) : a.toList.isEmpty = true := by
  rw [Lib.toList_data, List.isEmpty_iff_length_eq_zero]; simpa using h
theorem empty_f {a : ByteArray} (h : a.size ≠ 0) : a.toList.isEmpty = false := by
  rw [Lib.toList_data, ← Bool.not_eq_true, List.isEmpty_iff_length_eq_zero]; simpa using h
def bl (l : List UInt8) (k : Nat) : Nat := (l.getD k 0).toNat
def ofL (l : List UInt8) : ByteArray := ⟨l.toArray⟩
theorem ofL_size (l : List UInt8) : (ofL l).size = l.length := by simp [ofL, ByteArray.size]
theorem ofL_data (l : List UInt8) : (ofL l).data.toList = l := by simp [ofL]
theorem ofL_of (s : ByteArray) : ofL s.data.toList = s := by
  apply ByteArray.ext; simp [ofL]
theorem ofL_append (a b : List UInt8) : ofL a ++ ofL b = ofL (a ++ b) := by
  apply ByteArray.ext; simp [ofL]
theorem ext_bytes {a b : ByteArray} (h : a.data.toList = b.data.toList) : a = b := ByteArray.ext (Array.toList_inj.1 h)
def byteV (c : UInt8) : Value := .int .u8 c.toNat
def OwnB (t : TypeId) (w : World) (B g cap : Nat) (l : List UInt8) : Prop := w.ownsRow B t 1 (.slice (some ⟨g, 0, none⟩) l.length cap) l.length (l.map byteV)
theorem OwnB.cell {t : TypeId} {w : World} {B g cap : Nat} {l : List UInt8} (h : OwnB t w B g cap l) {j : Nat} (hj : j < l.length) : w.cell? ⟨g, j, none⟩ = some (.int .u8 (bl l j)) := by
  rw [World.ownsRow.cellAt h j (by omega)]
  simp [bl, byteV, List.getD_eq_getElem?_getD, List.getElem?_eq_getElem hj]
theorem OwnB.lt {t : TypeId} {w : World} {B g cap : Nat} {l : List UInt8} (h : OwnB t w B g cap l) : B ≤ g ∧ g < w.heap.size := World.ownsRow.lt h g rfl
theorem OwnB.string {P : Program} {t : TypeId} {w : World} {B g cap : Nat} {l : List UInt8} (h : OwnB t w B g cap l) (src e dst : TypeId) (hs : P.underlying src = some (.slice e)) (he : P.underlying e = some (.int .u8)) (hd : P.underlying dst = some .string) :
    (convert src dst (.slice (some ⟨g, 0, none⟩) l.length cap)).run P w = .ok (.string (ofL l)) w := by
  have hx : strOfNums (l.map fun c => (c.toNat : Int)) = ofL l := by
    apply ext_bytes
    rw [strOfNums_data, ofL_data, List.map_map]
    conv => rhs; rw [← List.map_id l]
    apply List.map_congr_left
    intro c _
    simp
  rw [← hx]
  refine run_convert_bytes_arg w src e hs he g 0 l.length cap _ (by simp) (fun i hi => ?_) dst hd
  rw [Nat.zero_add, h.cell hi]
  simp [bl, List.getD_eq_getElem?_getD, List.getElem?_eq_getElem hi]
theorem bytes_cases {N : Nat} {w : World} {v : Value} {l : List UInt8} (h : SliceC N 1 ByteC w [v] l) : (∃ a cap, v = .slice a 0 cap ∧ l = []) ∨
    ∃ b off cap, v = .slice (some ⟨b, off, none⟩) l.length cap ∧ 0 < l.length ∧ l.length ≤ cap ∧ cap ≤ maxLen ∧ l.length ≤ N ∧ ∀ i, i < l.length → w.cell? ⟨b, off + i, none⟩ = some (.int .u8 (bl l i)) := by
  obtain ⟨a, cap, hv, h1, h2, h3, _, h4⟩ := h
  simp only [List.cons.injEq, and_true] at hv
  by_cases hl : 0 < l.length
  · obtain ⟨b, off, rfl, hc⟩ := h4 hl
    refine .inr ⟨b, off, cap, hv, hl, h1, h2, h3, fun i hi => ?_⟩
    obtain ⟨c, _, hcc, hE⟩ := hc i hi
    have := hcc 0 (by omega)
    rw [hE] at this
    simpa [bl, List.getD_eq_getElem?_getD, List.getElem?_eq_getElem hi] using this
  · have : l = [] := by
      cases l with
      | nil => rfl
      | cons x r => simp at hl
    subst this
    exact .inl ⟨a, cap, by simpa using hv, rfl⟩
theorem ret_ii {a b : Int} {p : Int × Int} (h : p = (a, b)) : Ending.returned (.tuple #[.int .i64 a, .int .i64 b]) = .returned (.tuple #[.int .i64 p.1, .int .i64 p.2]) := by rw [h]
theorem ret_i {a b : Int} (h : b = a) : Ending.returned (.int .i64 a) = .returned (.int .i64 b) := by rw [h]
theorem ret_b {a b : Bool} (h : b = a) : Ending.returned (.bool a) = .returned (.bool b) := by rw [h]
theorem ret_s {a b : ByteArray} (h : b = a) : Ending.returned (.string a) = .returned (.string b) := by rw [h]
theorem cellAt {W : World} {b k : Nat} {cs : Array Value} {t : TypeId} {fr : Nat × Nat} {v : Value} (h : W.heap[b]? = some (.cells cs t fr)) (hv : cs[k]? = some v) : W.cell? ⟨b, k, none⟩ = some v :=
  (cell_of_row W b k cs t fr h).trans hv
structure Rec where
  key : ByteArray
  value : ByteArray
structure Meta where
  mode : Int
  uid : Int
  gid : Int
  user : ByteArray
  group : ByteArray
  second : Int
  nano : Int
def Meta.cells (m : Meta) : List Value := [.int .i64 m.mode, .int .i64 m.uid, .int .i64 m.gid, .string m.user, .string m.group, .int .i64 m.second, .int .i64 m.nano]
def i64 (n : Int) : Prop := -9223372036854775808 ≤ n ∧ n ≤ 9223372036854775807
structure Meta.Ok (N : Nat) (m : Meta) : Prop where
  mode : i64 m.mode
  uid : i64 m.uid
  gid : i64 m.gid
  user : m.user.size ≤ N
  group : m.group.size ≤ N
  second : i64 m.second
  nano : i64 m.nano
def MetaC (N : Nat) (_ : World) (cs : List Value) (m : Meta) : Prop := cs = m.cells ∧ m.Ok N
end Go.Creel
namespace Go.Proofs.YtaffgndickdbiaaDoor
open Go.Creel Go.ChangeShapes
section
variable {H : Type} {enc : TypeId × Value → H} {W : World} {S : DataW H → Prop} {N : Nat}
theorem opens_Str (hS : Bd H S N) : Opens enc Tryd.prog W S 9 (StrC N) := opens_str hS Tryd.underlying9
theorem opens_Int : Opens enc Tryd.prog W S 3 IntC := opens_int Tryd.underlying3
theorem opens_Bytes (hS : Bd H S N) : Opens enc Tryd.prog W S 38 (SliceC N 1 ByteC) := opens_slice hS Tryd.underlying38 (by kernel_rfl) (by decide) (opens_byte Tryd.underlying5)
theorem opens_Meta (hS : Bd H S N) : Opens enc Tryd.prog W S 37 (MetaC N) := by
  intro fuel cs x h hx
  have hu := Tryd.underlying37
  have hl := (opens_len hu h).trans (show Tryd.prog.cellsOf 37 = 7 by kernel_rfl)
  obtain ⟨a0, h0⟩ := opens_field hS hu h hx 0 0 1 rfl rfl (by kernel_rfl) opens_Int
  obtain ⟨a1, h1⟩ := opens_field hS hu h hx 1 1 1 rfl rfl (by kernel_rfl) opens_Int
  obtain ⟨a2, h2⟩ := opens_field hS hu h hx 2 2 1 rfl rfl (by kernel_rfl) opens_Int
  obtain ⟨a3, h3⟩ := opens_field hS hu h hx 3 3 1 rfl rfl (by kernel_rfl) (opens_Str hS)
  obtain ⟨a4, h4⟩ := opens_field hS hu h hx 4 4 1 rfl rfl (by kernel_rfl) (opens_Str hS)
  obtain ⟨a5, h5⟩ := opens_field hS hu h hx 5 5 1 rfl rfl (by kernel_rfl) opens_Int
  obtain ⟨a6, h6⟩ := opens_field hS hu h hx 6 6 1 rfl rfl (by kernel_rfl) opens_Int
  obtain ⟨c0, c1, c2, c3, c4, c5, c6, rfl⟩ : ∃ c0 c1 c2 c3 c4 c5 c6, cs = [c0, c1, c2, c3, c4, c5, c6] := by
    match cs, hl with
    | [c0, c1, c2, c3, c4, c5, c6], _ => exact ⟨c0, c1, c2, c3, c4, c5, c6, rfl⟩
  simp [StrC, IntC] at h0 h1 h2 h3 h4 h5 h6
  exact ⟨⟨a0, a1, a2, a3, a4, a5, a6⟩, by rw [h0.1, h1.1, h2.1, h3.1, h4.1, h5.1, h6.1]; rfl, h0.2, h1.2, h2.2, h3.2, h4.2, h5.2, h6.2⟩
end
end Go.Proofs.YtaffgndickdbiaaDoor
namespace Go.Creel
structure Ent where
  path : ByteArray
  kind : Int
  target : ByteArray
  mt : Meta
  da : Option Addr
  dcap : Nat
  data : List UInt8
def Ent.cells (e : Ent) : List Value := [.string e.path, .int .i64 e.kind, .string e.target, .int .i64 e.mt.mode, .int .i64 e.mt.uid, .int .i64 e.mt.gid, .string e.mt.user, .string e.mt.group, .int .i64 e.mt.second, .int .i64 e.mt.nano, .slice e.da e.data.length e.dcap]
structure Ent.Ok (N : Nat) (w : World) (e : Ent) : Prop where
  path : e.path.size ≤ N
  kind : i64 e.kind
  target : e.target.size ≤ N
  mt : e.mt.Ok N
  data : SliceC N 1 ByteC w [.slice e.da e.data.length e.dcap] e.data
structure Nod where
  path : ByteArray
  kind : Int
  same : Int
  target : ByteArray
  mt : Meta
  da : Option Addr
  dcap : Nat
  data : List UInt8
def Nod.cells (e : Nod) : List Value := [.string e.path, .int .i64 e.kind, .int .i64 e.same, .string e.target, .int .i64 e.mt.mode, .int .i64 e.mt.uid, .int .i64 e.mt.gid, .string e.mt.user, .string e.mt.group, .int .i64 e.mt.second, .int .i64 e.mt.nano, .slice e.da e.data.length e.dcap]
structure Nod.Ok (N : Nat) (w : World) (e : Nod) : Prop where
  path : e.path.size ≤ N
  kind : i64 e.kind
  same : i64 e.same
  target : e.target.size ≤ N
  mt : e.mt.Ok N
  data : SliceC N 1 ByteC w [.slice e.da e.data.length e.dcap] e.data
def NodC (N : Nat) (w : World) (cs : List Value) (e : Nod) : Prop := cs = e.cells ∧ e.Ok N w
end Go.Creel
namespace Go.Proofs.YtaffgndickdbiaaDoor
open Go.Creel Go.ChangeShapes
section
variable {H : Type} {enc : TypeId × Value → H} {W : World} {S : DataW H → Prop} {N : Nat}
theorem opens_Node (hS : Bd H S N) : Opens enc Tryd.prog W S 60 (NodC N) := by
  intro fuel cs x h hx
  have hu := Tryd.underlying60
  have hl := (opens_len hu h).trans (show Tryd.prog.cellsOf 60 = 12 by kernel_rfl)
  obtain ⟨a0, h0⟩ := opens_field hS hu h hx 0 0 1 rfl rfl (by kernel_rfl) (opens_Str hS)
  obtain ⟨a1, h1⟩ := opens_field hS hu h hx 1 1 1 rfl rfl (by kernel_rfl) opens_Int
  obtain ⟨a5, h5⟩ := opens_field hS hu h hx 2 2 1 rfl rfl (by kernel_rfl) opens_Int
  obtain ⟨a2, h2⟩ := opens_field hS hu h hx 3 3 1 rfl rfl (by kernel_rfl) (opens_Str hS)
  obtain ⟨a3, h3⟩ := opens_field hS hu h hx 4 4 7 rfl rfl (by kernel_rfl) (opens_Meta hS)
  obtain ⟨a4, h4⟩ := opens_field hS hu h hx 5 11 1 rfl rfl (by kernel_rfl) (opens_Bytes hS)
  obtain ⟨c0, c1, c2, c3, c4, c5, c6, c7, c8, c9, c10, c11, rfl⟩ : ∃ c0 c1 c2 c3 c4 c5 c6 c7 c8 c9 c10 c11, cs = [c0, c1, c2, c3, c4, c5, c6, c7, c8, c9, c10, c11] := by
    match cs, hl with
    | [c0, c1, c2, c3, c4, c5, c6, c7, c8, c9, c10, c11], _ => exact ⟨c0, c1, c2, c3, c4, c5, c6, c7, c8, c9, c10, c11, rfl⟩
  simp only [StrC, IntC, MetaC, List.drop, List.take, Meta.cells, List.cons.injEq, and_true] at h0 h1 h2 h3 h5
  obtain ⟨da, dcap, hc, hr⟩ := h4
  have hc11 : c11 = .slice da a4.length dcap := by simpa using hc
  subst hc11
  obtain ⟨⟨rfl, rfl, rfl, rfl, rfl, rfl, rfl⟩, hm⟩ := h3
  exact ⟨⟨a0, a1, a5, a2, a3, da, dcap, a4⟩, by rw [h0.1, h1.1, h2.1, h5.1]; rfl, h0.2, h1.2, h5.2, h2.2, hm, ⟨da, dcap, rfl, hr⟩⟩
end
end Go.Proofs.YtaffgndickdbiaaDoor
namespace Go.Creel
def hasB (s : ByteArray) (c : UInt8) : Bool := s.data.toList.any (· == c)
theorem get_byt (s : ByteArray) (k : Nat) (h : k < s.size) (c : UInt8) : (s.data.toList[k]'(by simpa using h) = c) ↔ byt s k = c.toNat := by
  unfold byt
  rw [List.getD_eq_getElem?_getD, List.getElem?_eq_getElem (by simpa using h)]
  constructor
  · intro e; simp [e]
  · intro e; exact UInt8.toNat_inj.1 e
theorem hasB_true {s : ByteArray} {c : UInt8} {k : Nat} (h : k < s.size) (e : byt s k = c.toNat) : hasB s c = true := by
  unfold hasB
  rw [List.any_eq_true]
  exact ⟨_, List.getElem_mem (by simpa using h), by rw [beq_iff_eq]; exact (get_byt s k h c).2 e⟩
theorem hasB_false {s : ByteArray} {c : UInt8} (h : ∀ k, k < s.size → byt s k ≠ c.toNat) : hasB s c = false := by
  unfold hasB
  rw [List.any_eq_false]
  intro x hx
  obtain ⟨k, hk, rfl⟩ := List.getElem_of_mem hx
  have hk' : k < s.size := by simpa using hk
  rw [beq_iff_eq]
  exact fun e => h k hk' ((get_byt s k hk' c).1 e)
theorem idx_has (s : ByteArray) (c : UInt8) : decide (0 ≤ firstIdx s c) = hasB s c := firstIdx_nonneg s c
end Go.Creel
namespace Go.Proofs.YtaffgndickdbiaaDoor
open Go.Creel Go.RowKit
theorem call_indexByteString (s : ByteArray) (n : Int) (w : World) : (callFunc 119 #[.string s, .int .u8 n]).run Tryd.prog w = .ok (.value (.int .i64 (firstIdx s n.toNat.toUInt8))) w := by
  rw [run_callFunc_extern (P := Tryd.prog) Tryd.func119 (by kernel_rfl) (by kernel_rfl) (by kernel_rfl) (e := Extern.BytealgIndexByte.indexByte) (by kernel_rfl), run_indexByte_string]
  rfl
set_option maxRecDepth 100000 in
theorem IndexByte_any (s : ByteArray) (n : Int) (w : World) :
    Calls Tryd.prog 87 #[.string s, .int .u8 n] w fun e w' => e = .returned (.int .i64 (firstIdx s n.toNat.toUInt8)) ∧ w = w' := by
  have hcall := call_indexByteString s n w
  go_enter Tryd.func87, Tryd.ntmps87
  go_wp2
  go_ret
  exact ⟨rfl, rfl⟩
set_option maxRecDepth 100000 in
set_option maxHeartbeats 400000 in
theorem has_any (s : ByteArray) (c : UInt8) (n : Int) (hn : n = c.toNat) (w : World) (hs : s.size ≤ maxLen) :
    Calls Tryd.prog 92 #[.string s, .int .u8 n] w fun e w' => e = .returned (.bool (hasB s c)) ∧ w = w' := by
  unfold maxLen at hs
  have HN := Lib.hid hn
  clear hn
  go_enter Tryd.func92, Tryd.ntmps92
  go_wp2
  go_loop [5] (fun i => ∃ k : Nat, k ≤ s.size ∧ i = .int .i64 k ∧ Hid (∀ j, j < k → byt s j ≠ c.toNat)) (fun i => s.size - (intOf i).toNat)
  case atStart => exact ⟨0, by omega, rfl, fun j hj => absurd hj (by omega)⟩
  case round =>
    obtain ⟨k, hk, rfl, HD⟩ := hrel
    by_cases hlt : k < s.size
    · have HB := Lib.hid (byt_get s k hlt)
      have hb' : s[k].toNat < 256 := UInt8.toNat_lt _
      by_cases he : byt s k = c.toNat
      · have HF := Lib.hid (hasB_true hlt he)
        have hq : (((s[k].toNat : Nat) : Int) == n) = true := by rw [HN.out, HB.out, he]; simp
        clear he
        go_wp2
        go_ret
        exact ⟨ret_b HF.out, rfl⟩
      · have hq : (((s[k].toNat : Nat) : Int) == n) = false := by rw [HN.out, HB.out, beq_eq_false_iff_ne]; omega
        have HE := Lib.hid he
        clear he
        go_wp2
        go_round
        case rel =>
          refine ⟨k + 1, by omega, by go_num, fun j hj => ?_⟩
          by_cases e : j = k
          · rw [e]; exact HE.out
          · exact HD.out j (by omega)
        case measure => simp [intOf]; omega
    · obtain rfl : k = s.size := by omega
      have HF := Lib.hid (hasB_false HD.out)
      go_wp2
      go_ret
      exact ⟨ret_b HF.out, rfl⟩
end Go.Proofs.YtaffgndickdbiaaDoor
