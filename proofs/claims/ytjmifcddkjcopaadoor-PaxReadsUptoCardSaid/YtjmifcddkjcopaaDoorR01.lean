/-
  Texts: Base, Data, Text, Shelf, Rune, IndexAny, IndexAnyL, Rec.
-/
import Derived.WalkKit
import Derived.ProofKit
import Derived.ChangeOld
import Derived.Lib.Hide
import Derived.WalkLawsBesides
import Derived.WalkSpells
import Derived.ShutString
import Derived.OpenShut
import Derived.Deep.Slices
import Derived.Deep.Fields
import Derived.Lib.Strings
import Derived.Deep.QuietTactic
import Derived.BigQuiet
import Derived.Test.YtjmifcddkjcopaaDoorRows
import Derived.Shelf.Strings.Trim
import Derived.Shelf.Small.Utf8
import Derived.Shelf.Small.Strs
import Derived.Shelf.Strconv.Atoi
import Derived.Shelf.Strconv.Itoa0
import Derived.Shelf.Strconv.Itoa1
import Derived.Shelf.LaysM
import Derived.Shelf.Strconv.Itoa2
import Derived.Shelf.Strconv.Itoa3
import Derived.Shelf.Strconv.AtoiErrFast
import Derived.Shelf.Strconv.ParseIntEmpty
import Derived.Shelf.Strconv.AtoiFail
import Derived.Shelf.Strconv.Clone
import Derived.Shelf.Strconv.SyntaxError
import Derived.Shelf.LaysC
import Derived.Shelf.Strconv.ToError
import Derived.Shelf.Strconv.Lower
import Derived.Shelf.Strconv.ParseUint10
import Derived.Shelf.Strconv.ParseUint10Empty
import Derived.Shelf.Strconv.ParseUint10Any
import Derived.Shelf.Strconv.ParseInt10
import Derived.Shelf.Strconv.AtoiLong
import Derived.Shelf.Strconv.AtoiInnerAll
import Derived.Shelf.Strconv.RangeError
import Derived.Shelf.Strconv.ToErrorRange
import Derived.Shelf.Strconv.AtoiAll
import Derived.Shelf.Strings.Search1
import Derived.Shelf.Strings.Search2
import Derived.Shelf.Strings.Cut
import Derived.Shelf.Strings.Shaped
import Derived.Shelf.Strings.Runes
import Derived.Shelf.Strings.IndexAny
import Derived.Shelf.Strings.AsciiSet
import Derived.Shelf.Strings.IndexAnyAll
import Derived.Shelf.Unicode.DecodeSlow
import Derived.Test.YtjmifcddkjcopaaDoorProg
import Derived.Laws.RangeAny
import Derived.Laws.Runes
import Derived.WalkMore
import Derived.Scope
import Derived.Deep.LoopGhost
import Derived.Lib.OthersKept
import Derived.StillTailTactics
set_option linter.unusedVariables false
set_option linter.unusedSimpArgs false
set_option linter.unusedSectionVars false
namespace Go.Creel
open Go.ChangeShapes Go.WideShapes Go.ChangeAt Go.RowKit Go.Deep
open Go.ChangeMaps (open_string)
section
variable {H : Type} {enc : TypeId × Value → H} {P : Program}
theorem trodAll_below (hl : laidOutB P = true) {W W' : World} (hb : Below W.heap.size W W') :
    ∀ {ts : List TypeId} {vs : List Value} {ds : List (DataW H)} {ps : List MemPlace}, (ts.all fun t => P.readableRec t && decide (t < P.types.size)) = true →
      DataW.TrodAll enc P W 0 (fun _ => true) true ts vs ds ps → (∀ x ∈ ps, x.block < W.heap.size) → DataW.TrodAll enc P W' 0 (fun b => decide (b < W.heap.size)) true ts vs ds ps
  | [], vs, ds, ps, _, h, _ => by
    obtain ⟨rfl, rfl, rfl⟩ := trodAll_nil h
    exact trodAll_mk0
  | t :: ts, vs, ds, ps, hr, h, hlt => by
    obtain ⟨v, vs', d, ds', p, q, rfl, rfl, rfl, h0, h1⟩ := trodAll_cons h
    simp only [List.all_cons, Bool.and_eq_true, decide_eq_true_eq] at hr
    exact trodAll_cons_mk (Below.trod hl hr.1.1 hr.1.2 h0 hb (fun x hx => hlt x (by simp [hx]))) (trodAll_below hl hb (by simpa using hr.2) h1 (fun x hx => hlt x (by simp [hx])))
theorem trodAll_lt {W : World} : ∀ {ts : List TypeId} {vs : List Value} {ds : List (DataW H)} {ps : List MemPlace},
      DataW.TrodAll enc P W 0 (fun _ => true) true ts vs ds ps → ∀ x ∈ ps, x.block < W.heap.size
  | [], vs, ds, ps, h => by
    obtain ⟨rfl, rfl, rfl⟩ := trodAll_nil h
    simp
  | t :: ts, vs, ds, ps, h => by
    obtain ⟨v, vs', d, ds', p, q, rfl, rfl, rfl, ⟨m, h0⟩, h1⟩ := trodAll_cons h
    intro x hx
    rcases List.mem_append.1 hx with hx | hx
    · exact DataW.trod_lt m _ _ _ h0 x hx
    · exact trodAll_lt h1 x hx
theorem law_post {fn : Func} {s : ChangeSpec} {tb : TypeId} {W W' : World} {args : Array Value} {ds gs : List (DataW H)} {before : List MemPlace} (hl : laidOutB P = true)
    (hr : (fn.params.toList.all fun t => P.readableRec t && decide (t < P.types.size)) = true) (hres : fn.resultTypes = #[tb]) (htb : P.underlying tb = some .bool) (hv : s.vars = [])
    (hs : s.fn H (ds ++ gs) = { results := [.lit (.bool true)], args := ds })
    (hW : DataW.Whole enc P fn.params.toList s.vars false W args.toList ds gs before) (bel : Below W.heap.size W W') : s.post enc P fn false true false false W args (.bool true) W' := by
  have hW' := hW
  obtain ⟨p, q, hA, hV, rfl, hfz, hnd⟩ := hW
  rw [hv] at hV
  obtain ⟨rfl, rfl⟩ := trodVars_none hV
  refine ⟨ds, [], _, [], p, [], hW', ?_, ?_, ?_, bel.frame _, fun h => by cases h⟩
  · rw [hs, hres]
    exact trodAll_mk1 (shut_bool htb _)
  · rw [hs]
    exact trodAll_below hl bel hr hA (trodAll_lt hA)
  · rw [hs, hv]
    rfl
end
structure Bd (H : Type) (S : DataW H → Prop) (N : Nat) : Prop where
  str : ∀ l, S (.lit (.string l)) → l.length ≤ maxLen → l.length ≤ N
  slc : ∀ el sp, S (.slice el sp) → el.length + sp.length ≤ maxLen → el.length ≤ N ∧ ∀ d ∈ el, S d
  agg : ∀ ps, S (.agg ps) → ∀ d ∈ ps, S d
theorem Bd.any (H : Type) : Bd H (fun _ => True) maxLen := ⟨fun _ _ h => h, fun _ _ _ h => ⟨by omega, fun _ _ => trivial⟩, fun _ _ _ _ => trivial⟩
def ByteC (_ : World) (cs : List Value) (n : UInt8) : Prop := cs = [.int .u8 n.toNat]
def SliceC {α : Type} (N n : Nat) (E : World → List Value → α → Prop) (w : World) (cs : List Value) (l : List α) : Prop :=
  ∃ (a : Option Addr) (cap : Nat), cs = [.slice a l.length cap] ∧ l.length ≤ cap ∧ cap ≤ maxLen ∧ l.length ≤ N ∧ (a = none → cap = 0) ∧
    (0 < l.length → ∃ b off, a = some ⟨b, off, none⟩ ∧ ∀ i (h : i < l.length), ∃ c, c.length = n ∧ (∀ j, j < n → w.cell? ⟨b, off + i * n + j, none⟩ = c[j]?) ∧ E w c l[i])
theorem SliceC.below {α : Type} {N n : Nat} {E : World → List Value → α → Prop} {w w' : World} {cs : List Value} {l : List α} (h : SliceC N n E w cs l) (hE : ∀ c a, E w c a → E w' c a) (hb : Below w.heap.size w w') : SliceC N n E w' cs l := by
  obtain ⟨a, cap, h0, h1, h2, h3, h4, h5⟩ := h
  refine ⟨a, cap, h0, h1, h2, h3, h4, fun hp => ?_⟩
  obtain ⟨b, off, e, hc⟩ := h5 hp
  refine ⟨b, off, e, fun i hi => ?_⟩
  obtain ⟨c, hl, hcc, he⟩ := hc i hi
  refine ⟨c, hl, fun j hj => ?_, hE _ _ he⟩
  have hs := hcc j hj
  rw [List.getElem?_eq_getElem (by omega)] at hs
  rw [hb.cell (World.block_lt_of_cell? w _ hs), hcc j hj]
def byt (s : ByteArray) (k : Nat) : Nat := (s.data.toList.getD k 0).toNat
theorem byt_get (s : ByteArray) (k : Nat) (h : k < s.size) : s[k].toNat = byt s k := by
  unfold byt
  rw [List.getD_eq_getElem?_getD, List.getElem?_eq_getElem (by simpa using h)]
  rfl
theorem bcell {W w1 : World} (hb : Below W.heap.size W w1) : (∀ b o, b < W.heap.size → w1.cell? ⟨b, o, none⟩ = W.cell? ⟨b, o, none⟩) ∧ (∀ b o, b < W.heap.size → w1.frozen? ⟨b, o, none⟩ = W.frozen? ⟨b, o, none⟩) :=
  ⟨fun b o h => hb.cell (p := ⟨b, o, none⟩) h, fun b o h => hb.frozen (p := ⟨b, o, none⟩) h⟩
theorem seq_t {a b : ByteArray} (h : a = b) : (a.toList == b.toList) = true := by subst h; simp
theorem toList_inj {a b : ByteArray} (h : a.toList = b.toList) : a = b := by
  rw [Lib.toList_data, Lib.toList_data] at h
  exact ByteArray.ext (Array.toList_inj.1 h)
theorem seq_f {a b : ByteArray} (h : a ≠ b) : (a.toList == b.toList) = false := by
  rw [beq_eq_false_iff_ne]
  exact fun e => h (toList_inj e)
theorem empty_t {a : ByteArray} (h : a.size = 0) : a.toList.isEmpty = true := by
  rw [Lib.toList_data, List.isEmpty_iff_length_eq_zero]; simpa using h
theorem empty_f {a : ByteArray} (h : a.size ≠ 0) : a.toList.isEmpty = false := by
  rw [Lib.toList_data, ← Bool.not_eq_true, List.isEmpty_iff_length_eq_zero]; simpa using h
def bl (l : List UInt8) (k : Nat) : Nat := (l.getD k 0).toNat
def ofL (l : List UInt8) : ByteArray := ⟨l.toArray⟩
theorem ofL_size (l : List UInt8) : (ofL l).size = l.length := by simp [ofL, ByteArray.size]
theorem ofL_data (l : List UInt8) : (ofL l).data.toList = l := by simp [ofL]
theorem ext_bytes {a b : ByteArray} (h : a.data.toList = b.data.toList) : a = b := ByteArray.ext (Array.toList_inj.1 h)
def byteV (c : UInt8) : Value := .int .u8 c.toNat
def OwnB (t : TypeId) (w : World) (B g cap : Nat) (l : List UInt8) : Prop := w.ownsRow B t 1 (.slice (some ⟨g, 0, none⟩) l.length cap) l.length (l.map byteV)
theorem OwnB.cell {t : TypeId} {w : World} {B g cap : Nat} {l : List UInt8} (h : OwnB t w B g cap l) {j : Nat} (hj : j < l.length) : w.cell? ⟨g, j, none⟩ = some (.int .u8 (bl l j)) := by
  rw [World.ownsRow.cellAt h j (by omega)]
  simp [bl, byteV, List.getD_eq_getElem?_getD, List.getElem?_eq_getElem hj]
theorem OwnB.lt {t : TypeId} {w : World} {B g cap : Nat} {l : List UInt8} (h : OwnB t w B g cap l) : B ≤ g ∧ g < w.heap.size := World.ownsRow.lt h g rfl
theorem OwnB.string {P : Program} {t : TypeId} {w : World} {B g cap : Nat} {l : List UInt8} (h : OwnB t w B g cap l) (src e dst : TypeId) (hs : P.underlying src = some (.slice e)) (he : P.underlying e = some (.int .u8)) (hd : P.underlying dst = some .string) :
    (convert src dst (.slice (some ⟨g, 0, none⟩) l.length cap)).run P w = .ok (.string (ofL l)) w := by
  have hx : strOfNums (l.map fun c => (c.toNat : Int)) = ofL l := by
    apply ext_bytes
    rw [strOfNums_data, ofL_data, List.map_map]
    conv => rhs; rw [← List.map_id l]
    apply List.map_congr_left
    intro c _
    simp
  rw [← hx]
  refine run_convert_bytes_arg w src e hs he g 0 l.length cap _ (by simp) (fun i hi => ?_) dst hd
  rw [Nat.zero_add, h.cell hi]
  simp [bl, List.getD_eq_getElem?_getD, List.getElem?_eq_getElem hi]
theorem ret_si {a : ByteArray} {b : Int} {p : ByteArray × Int} (h : p = (a, b)) : Ending.returned (.tuple #[.string a, .int .i64 b]) = .returned (.tuple #[.string p.1, .int .i64 p.2]) := by rw [h]
theorem ret_b {a b : Bool} (h : b = a) : Ending.returned (.bool a) = .returned (.bool b) := by rw [h]
theorem cellAt {W : World} {b k : Nat} {cs : Array Value} {t : TypeId} {fr : Nat × Nat} {v : Value} (h : W.heap[b]? = some (.cells cs t fr)) (hv : cs[k]? = some v) : W.cell? ⟨b, k, none⟩ = some v :=
  (cell_of_row W b k cs t fr h).trans hv
structure Rec where
  key : ByteArray
  value : ByteArray
def RecC (N : Nat) (_ : World) (cs : List Value) (r : Rec) : Prop := cs = [.string r.key, .string r.value] ∧ r.key.size ≤ N ∧ r.value.size ≤ N
structure Meta where
  mode : Int
  uid : Int
  gid : Int
  user : ByteArray
  group : ByteArray
  second : Int
  nano : Int
def Meta.cells (m : Meta) : List Value := [.int .i64 m.mode, .int .i64 m.uid, .int .i64 m.gid, .string m.user, .string m.group, .int .i64 m.second, .int .i64 m.nano]
def i64 (n : Int) : Prop := -9223372036854775808 ≤ n ∧ n ≤ 9223372036854775807
structure Meta.Ok (N : Nat) (m : Meta) : Prop where
  mode : i64 m.mode
  uid : i64 m.uid
  gid : i64 m.gid
  user : m.user.size ≤ N
  group : m.group.size ≤ N
  second : i64 m.second
  nano : i64 m.nano
def hasB (s : ByteArray) (c : UInt8) : Bool := s.data.toList.any (· == c)
theorem get_byt (s : ByteArray) (k : Nat) (h : k < s.size) (c : UInt8) : (s.data.toList[k]'(by simpa using h) = c) ↔ byt s k = c.toNat := by
  unfold byt
  rw [List.getD_eq_getElem?_getD, List.getElem?_eq_getElem (by simpa using h)]
  constructor
  · intro e; simp [e]
  · intro e; exact UInt8.toNat_inj.1 e
theorem hasB_true {s : ByteArray} {c : UInt8} {k : Nat} (h : k < s.size) (e : byt s k = c.toNat) : hasB s c = true := by
  unfold hasB
  rw [List.any_eq_true]
  exact ⟨_, List.getElem_mem (by simpa using h), by rw [beq_iff_eq]; exact (get_byt s k h c).2 e⟩
theorem hasB_false {s : ByteArray} {c : UInt8} (h : ∀ k, k < s.size → byt s k ≠ c.toNat) : hasB s c = false := by
  unfold hasB
  rw [List.any_eq_false]
  intro x hx
  obtain ⟨k, hk, rfl⟩ := List.getElem_of_mem hx
  have hk' : k < s.size := by simpa using hk
  rw [beq_iff_eq]
  exact fun e => h k hk' ((get_byt s k hk' c).1 e)
theorem idx_has (s : ByteArray) (c : UInt8) : decide (0 ≤ firstIdx s c) = hasB s c := firstIdx_nonneg s c
theorem idx_none {s : ByteArray} {c : UInt8} (h : hasB s c = false) : firstIdx s c = -1 := by
  apply firstIdx_none
  unfold hasB at h
  rw [List.any_eq_false] at h
  intro b hb e
  exact h b hb (by simp [e])
theorem idx_ge {s : ByteArray} {c : UInt8} (h : hasB s c = true) : 0 ≤ firstIdx s c := by
  rw [← idx_has] at h
  simpa using h
theorem idx_lt {s : ByteArray} {c : UInt8} : firstIdx s c < 0 ∨ ∃ i : Nat, firstIdx s c = i ∧ i < s.size ∧ byt s i = c.toNat ∧ ∀ j, j < i → byt s j ≠ c.toNat := by
  unfold firstIdx
  have key : ∀ i, i < s.size → ((s[i]! == c) = true ↔ byt s i = c.toNat) := by
    intro i hi
    rw [beq_iff_eq, getElem!_pos s i hi, ← byt_get s i hi]
    exact UInt8.toNat_inj.symm
  cases hf : (List.range s.size).find? fun i => s[i]! == c with
  | none => left; simp
  | some i =>
    right
    have h1 := List.find?_some hf
    have h2 := List.mem_range.1 (List.mem_of_find?_eq_some hf)
    refine ⟨i, rfl, h2, (key i h2).1 h1, fun j hj => ?_⟩
    have h3 := (List.find?_range_eq_some.1 hf).2.2 j hj
    intro e
    have := (key j (by omega)).2 e
    simp [this] at h3
end Go.Creel
namespace Go.Proofs.YtjmifcddkjcopaaDoor
open Go.Creel Go.RowKit
theorem call_indexByteString (s : ByteArray) (n : Int) (w : World) : (callFunc 59 #[.string s, .int .u8 n]).run Tryd.prog w = .ok (.value (.int .i64 (firstIdx s n.toNat.toUInt8))) w := by
  rw [run_callFunc_extern (P := Tryd.prog) Tryd.func59 (by kernel_rfl) (by kernel_rfl) (by kernel_rfl) (e := Extern.BytealgIndexByte.indexByte) (by kernel_rfl), run_indexByte_string]
  rfl
set_option maxRecDepth 100000 in
theorem IndexByte_any (s : ByteArray) (n : Int) (w : World) :
    Calls Tryd.prog 32 #[.string s, .int .u8 n] w fun e w' => e = .returned (.int .i64 (firstIdx s n.toNat.toUInt8)) ∧ w = w' := by
  have hcall := call_indexByteString s n w
  go_enter Tryd.func32, Tryd.ntmps32
  go_wp2
  go_ret
  exact ⟨rfl, rfl⟩
set_option maxRecDepth 100000 in
set_option maxHeartbeats 400000 in
theorem has_any (s : ByteArray) (c : UInt8) (n : Int) (hn : n = c.toNat) (w : World) (hs : s.size ≤ maxLen) :
    Calls Tryd.prog 48 #[.string s, .int .u8 n] w fun e w' => e = .returned (.bool (hasB s c)) ∧ w = w' := by
  unfold maxLen at hs
  have HN := Lib.hid hn
  clear hn
  go_enter Tryd.func48, Tryd.ntmps48
  go_wp2
  go_loop [5] (fun i => ∃ k : Nat, k ≤ s.size ∧ i = .int .i64 k ∧ Hid (∀ j, j < k → byt s j ≠ c.toNat)) (fun i => s.size - (intOf i).toNat)
  case atStart => exact ⟨0, by omega, rfl, fun j hj => absurd hj (by omega)⟩
  case round =>
    obtain ⟨k, hk, rfl, HD⟩ := hrel
    by_cases hlt : k < s.size
    · have HB := Lib.hid (byt_get s k hlt)
      have hb' : s[k].toNat < 256 := UInt8.toNat_lt _
      by_cases he : byt s k = c.toNat
      · have HF := Lib.hid (hasB_true hlt he)
        have hq : (((s[k].toNat : Nat) : Int) == n) = true := by rw [HN.out, HB.out, he]; simp
        clear he
        go_wp2
        go_ret
        exact ⟨ret_b HF.out, rfl⟩
      · have hq : (((s[k].toNat : Nat) : Int) == n) = false := by rw [HN.out, HB.out, beq_eq_false_iff_ne]; omega
        have HE := Lib.hid he
        clear he
        go_wp2
        go_round
        case rel =>
          refine ⟨k + 1, by omega, by go_num, fun j hj => ?_⟩
          by_cases e : j = k
          · rw [e]; exact HE.out
          · exact HD.out j (by omega)
        case measure => simp [intOf]; omega
    · obtain rfl : k = s.size := by omega
      have HF := Lib.hid (hasB_false HD.out)
      go_wp2
      go_ret
      exact ⟨ret_b HF.out, rfl⟩
end Go.Proofs.YtjmifcddkjcopaaDoor
namespace Go.Proofs
open Go.Shelf
def Tryd.lays160_ren : Go.Shelf.Ren := ⟨fun | 160 => 12 | 232 => 23 | 231 => 22 | 227 => 24 | 234 => 26 | 233 => 25 | 236 => 28 | 235 => 27 | 228 => 36 | 271 => 39 | 151 => 38 | 197 => 37 | 120 => 54 | 152 => 53 | 260 => 52 | 137 => 32 | 119 => 62 | 224 => 50 | 225 => 49 | 217 => 46 | 266 => 59 | n => n, fun | 9 => 9 | 4 => 4 | 3 => 3 | 5 => 5 | 117 => 47 | 116 => 46 | 0 => 0 | 124 => 50 | 21 => 21 | 105 => 57 | 46 => 69 | 119 => 83 | 139 => 86 | 138 => 85 | n => n, fun | 3 => 3 | 4 => 4 | n => n⟩
theorem Tryd.lays160 : Go.Proofs.Lays.n160 Tryd.prog Tryd.lays160_ren := {
  mixed := by kernel_rfl
  f119 := Tryd.func62.trans (congrArg some (by kernel_rfl))
  f120 := Tryd.func54.trans (congrArg some (by kernel_rfl))
  f137 := Tryd.func32.trans (congrArg some (by kernel_rfl))
  f151 := Tryd.func38.trans (congrArg some (by kernel_rfl))
  f152 := Tryd.func53.trans (congrArg some (by kernel_rfl))
  f160 := Tryd.func12.trans (congrArg some (by kernel_rfl))
  f197 := Tryd.func37.trans (congrArg some (by kernel_rfl))
  f217 := Tryd.func46.trans (congrArg some (by kernel_rfl))
  f224 := Tryd.func50.trans (congrArg some (by kernel_rfl))
  f225 := Tryd.func49.trans (congrArg some (by kernel_rfl))
  f227 := Tryd.func24.trans (congrArg some (by kernel_rfl))
  f228 := Tryd.func36.trans (congrArg some (by kernel_rfl))
  f231 := Tryd.func22.trans (congrArg some (by kernel_rfl))
  f232 := Tryd.func23.trans (congrArg some (by kernel_rfl))
  f233 := Tryd.func25.trans (congrArg some (by kernel_rfl))
  f234 := Tryd.func26.trans (congrArg some (by kernel_rfl))
  f235 := Tryd.func27.trans (congrArg some (by kernel_rfl))
  f236 := Tryd.func28.trans (congrArg some (by kernel_rfl))
  f260 := Tryd.func52.trans (congrArg some (by kernel_rfl))
  f266 := Tryd.func59.trans (congrArg some (by kernel_rfl))
  f271 := Tryd.func39.trans (congrArg some (by kernel_rfl))
  t0 := Tryd.underlying0
  a0 := Tryd.isAgg0
  z0 := Tryd.sizeOf0
  v0 := Tryd.zeroValue0
  t3 := Tryd.underlying3
  a3 := Tryd.isAgg3
  z3 := Tryd.sizeOf3
  v3 := Tryd.zeroValue3
  t4 := Tryd.underlying4
  a4 := Tryd.isAgg4
  z4 := Tryd.sizeOf4
  v4 := Tryd.zeroValue4
  t5 := Tryd.underlying5
  a5 := Tryd.isAgg5
  z5 := Tryd.sizeOf5
  v5 := Tryd.zeroValue5
  t9 := Tryd.underlying9
  a9 := Tryd.isAgg9
  z9 := Tryd.sizeOf9
  v9 := Tryd.zeroValue9
  t21 := Tryd.underlying21
  a21 := Tryd.isAgg21
  z21 := Tryd.sizeOf21
  v21 := Tryd.zeroValue21
  t46 := Tryd.underlying69
  a46 := Tryd.isAgg69
  z46 := Tryd.sizeOf69
  v46 := Tryd.zeroValue69
  t105 := Tryd.underlying57
  a105 := Tryd.isAgg57
  z105 := Tryd.sizeOf57
  v105 := Tryd.zeroValue57
  t116 := Tryd.underlying46
  a116 := Tryd.isAgg46
  z116 := Tryd.sizeOf46
  t117 := Tryd.underlying47
  a117 := Tryd.isAgg47
  z117 := Tryd.sizeOf47
  v117 := Tryd.zeroValue47
  t119 := Tryd.underlying83
  a119 := Tryd.isAgg83
  z119 := Tryd.sizeOf83
  t124 := Tryd.underlying50
  a124 := Tryd.isAgg50
  z124 := Tryd.sizeOf50
  v124 := Tryd.zeroValue50
  t138 := Tryd.underlying85
  a138 := Tryd.isAgg85
  z138 := Tryd.sizeOf85
  v138 := Tryd.zeroValue85
  t139 := Tryd.underlying86
  a139 := Tryd.isAgg86
  z139 := Tryd.sizeOf86
  v139 := Tryd.zeroValue86
  g3 := by kernel_rfl
  g4 := by kernel_rfl }
def Tryd.lays119_ren : Go.Shelf.Ren := ⟨fun | 119 => 62 | n => n, fun | 21 => 21 | 4 => 4 | n => n, fun | n => n⟩
theorem Tryd.lays119 : Go.Proofs.Lays.n119 Tryd.prog Tryd.lays119_ren := {
  mixed := by kernel_rfl
  f119 := Tryd.func62.trans (congrArg some (by kernel_rfl))
  t4 := Tryd.underlying4
  a4 := Tryd.isAgg4
  z4 := Tryd.sizeOf4
  v4 := Tryd.zeroValue4
  t21 := Tryd.underlying21
  a21 := Tryd.isAgg21
  z21 := Tryd.sizeOf21
  v21 := Tryd.zeroValue21 }
theorem Tryd.utf8_ValidRune (r : Int) (w : World) :
    Calls Tryd.prog 62 #[.int .i32 r] w fun e w' => e = .returned (.bool (Lib.validRune r)) ∧ w' = w := Any.utf8_ValidRune Tryd.lays119 r w
def Tryd.lays172_ren : Go.Shelf.Ren := ⟨fun | 172 => 13 | 244 => 29 | 245 => 30 | 247 => 40 | 279 => 41 | 280 => 42 | 281 => 43 | 282 => 44 | 287 => 55 | 316 => 56 | 171 => 33 | 205 => 57 | 321 => 63 | 322 => 64 | 243 => 47 | 246 => 60 | 283 => 65 | 284 => 66 | 285 => 67 | 286 => 68 | 129 => 70 | 317 => 69 | 318 => 71 | 319 => 72 | 320 => 73 | 337 => 74 | 338 => 75 | n => n, fun | 9 => 9 | 3 => 3 | 75 => 37 | 76 => 38 | 4 => 4 | 5 => 5 | 167 => 60 | 37 => 61 | 0 => 0 | 85 => 62 | 2 => 2 | 168 => 64 | 53 => 71 | 175 => 72 | 46 => 69 | 210 => 76 | 127 => 89 | 145 => 92 | 143 => 90 | 21 => 21 | 171 => 93 | 173 => 96 | 212 => 99 | 51 => 80 | 20 => 20 | 213 => 100 | 232 => 103 | 233 => 104 | 80 => 105 | n => n, fun | 15 => 1 | 16 => 2 | 17 => 5 | 18 => 6 | 19 => 7 | n => n⟩
theorem Tryd.lays172 : Go.Proofs.Lays.n172 Tryd.prog Tryd.lays172_ren := {
  mixed := by kernel_rfl
  f129 := Tryd.func70.trans (congrArg some (by kernel_rfl))
  f171 := Tryd.func33.trans (congrArg some (by kernel_rfl))
  f172 := Tryd.func13.trans (congrArg some (by kernel_rfl))
  f205 := Tryd.func57.trans (congrArg some (by kernel_rfl))
  f243 := Tryd.func47.trans (congrArg some (by kernel_rfl))
  f244 := Tryd.func29.trans (congrArg some (by kernel_rfl))
  f245 := Tryd.func30.trans (congrArg some (by kernel_rfl))
  f246 := Tryd.func60.trans (congrArg some (by kernel_rfl))
  f247 := Tryd.func40.trans (congrArg some (by kernel_rfl))
  f279 := Tryd.func41.trans (congrArg some (by kernel_rfl))
  f280 := Tryd.func42.trans (congrArg some (by kernel_rfl))
  f281 := Tryd.func43.trans (congrArg some (by kernel_rfl))
  f282 := Tryd.func44.trans (congrArg some (by kernel_rfl))
  f283 := Tryd.func65.trans (congrArg some (by kernel_rfl))
  f284 := Tryd.func66.trans (congrArg some (by kernel_rfl))
  f285 := Tryd.func67.trans (congrArg some (by kernel_rfl))
  f286 := Tryd.func68.trans (congrArg some (by kernel_rfl))
  f287 := Tryd.func55.trans (congrArg some (by kernel_rfl))
  f316 := Tryd.func56.trans (congrArg some (by kernel_rfl))
  f317 := Tryd.func69.trans (congrArg some (by kernel_rfl))
  f318 := Tryd.func71.trans (congrArg some (by kernel_rfl))
  f319 := Tryd.func72.trans (congrArg some (by kernel_rfl))
  f320 := Tryd.func73.trans (congrArg some (by kernel_rfl))
  f321 := Tryd.func63.trans (congrArg some (by kernel_rfl))
  f322 := Tryd.func64.trans (congrArg some (by kernel_rfl))
  f337 := Tryd.func74.trans (congrArg some (by kernel_rfl))
  f338 := Tryd.func75.trans (congrArg some (by kernel_rfl))
  t0 := Tryd.underlying0
  a0 := Tryd.isAgg0
  z0 := Tryd.sizeOf0
  v0 := Tryd.zeroValue0
  t2 := Tryd.underlying2
  a2 := Tryd.isAgg2
  z2 := Tryd.sizeOf2
  v2 := Tryd.zeroValue2
  t3 := Tryd.underlying3
  a3 := Tryd.isAgg3
  z3 := Tryd.sizeOf3
  v3 := Tryd.zeroValue3
  t4 := Tryd.underlying4
  a4 := Tryd.isAgg4
  z4 := Tryd.sizeOf4
  v4 := Tryd.zeroValue4
  t5 := Tryd.underlying5
  a5 := Tryd.isAgg5
  z5 := Tryd.sizeOf5
  v5 := Tryd.zeroValue5
  t9 := Tryd.underlying9
  a9 := Tryd.isAgg9
  z9 := Tryd.sizeOf9
  v9 := Tryd.zeroValue9
  t20 := Tryd.underlying20
  a20 := Tryd.isAgg20
  z20 := Tryd.sizeOf20
  v20 := Tryd.zeroValue20
  t21 := Tryd.underlying21
  a21 := Tryd.isAgg21
  z21 := Tryd.sizeOf21
  v21 := Tryd.zeroValue21
  t37 := Tryd.underlying61
  a37 := Tryd.isAgg61
  z37 := Tryd.sizeOf61
  v37 := Tryd.zeroValue61
  t46 := Tryd.underlying69
  a46 := Tryd.isAgg69
  z46 := Tryd.sizeOf69
  v46 := Tryd.zeroValue69
  t51 := Tryd.underlying80
  a51 := Tryd.isAgg80
  z51 := Tryd.sizeOf80
  v51 := Tryd.zeroValue80
  t53 := Tryd.underlying71
  a53 := Tryd.isAgg71
  z53 := Tryd.sizeOf71
  v53 := Tryd.zeroValue71
  t75 := Tryd.underlying37
  a75 := Tryd.isAgg37
  z75 := Tryd.sizeOf37
  v75 := Tryd.zeroValue37
  t76 := Tryd.underlying38
  a76 := Tryd.isAgg38
  z76 := Tryd.sizeOf38
  v76 := Tryd.zeroValue38
  t85 := Tryd.underlying62
  a85 := Tryd.isAgg62
  z85 := Tryd.sizeOf62
  v85 := Tryd.zeroValue62
  t127 := Tryd.underlying89
  a127 := Tryd.isAgg89
  z127 := Tryd.sizeOf89
  v127 := Tryd.zeroValue89
  t143 := Tryd.underlying90
  a143 := Tryd.isAgg90
  z143 := Tryd.sizeOf90
  v143 := Tryd.zeroValue90
  t145 := Tryd.underlying92
  a145 := Tryd.isAgg92
  z145 := Tryd.sizeOf92
  v145 := Tryd.zeroValue92
  t167 := Tryd.underlying60
  a167 := Tryd.isAgg60
  z167 := Tryd.sizeOf60
  v167 := Tryd.zeroValue60
  t168 := Tryd.underlying64
  a168 := Tryd.isAgg64
  z168 := Tryd.sizeOf64
  v168 := Tryd.zeroValue64
  t171 := Tryd.underlying93
  a171 := Tryd.isAgg93
  z171 := Tryd.sizeOf93
  v171 := Tryd.zeroValue93
  t173 := Tryd.underlying96
  a173 := Tryd.isAgg96
  z173 := Tryd.sizeOf96
  v173 := Tryd.zeroValue96
  t175 := Tryd.underlying72
  a175 := Tryd.isAgg72
  z175 := Tryd.sizeOf72
  v175 := Tryd.zeroValue72
  t210 := Tryd.underlying76
  a210 := Tryd.isAgg76
  z210 := Tryd.sizeOf76
  v210 := Tryd.zeroValue76
  t212 := Tryd.underlying99
  a212 := Tryd.isAgg99
  z212 := Tryd.sizeOf99
  v212 := Tryd.zeroValue99
  t213 := Tryd.underlying100
  a213 := Tryd.isAgg100
  z213 := Tryd.sizeOf100
  t232 := Tryd.underlying103
  a232 := Tryd.isAgg103
  z232 := Tryd.sizeOf103
  v232 := Tryd.zeroValue103
  t233 := Tryd.underlying104
  a233 := Tryd.isAgg104
  z233 := Tryd.sizeOf104
  v233 := Tryd.zeroValue104
  g15 := by kernel_rfl
  g16 := by kernel_rfl
  g17 := by kernel_rfl
  g18 := by kernel_rfl
  g19 := by kernel_rfl }
open Go.RowKit in
theorem Tryd.strconv_Atoi (s : ByteArray) (n : Int) (hl : s.size ≤ 18) (h : Lib.atoi s.data.toList = some n) (w : World) :
    Calls Tryd.prog 13 #[.string s] w fun e w' => e = .returned (.tuple #[.int .i64 n, .nilIface]) ∧ ∃ t, w' = Lib.bytesWorld w 5 t := Any.strconv_Atoi Tryd.lays172 s n hl h w
def Tryd.laysM171_ren : Go.Shelf.Ren := ⟨fun | 171 => 33 | 243 => 47 | 246 => 60 | 283 => 65 | 284 => 66 | 285 => 67 | 286 => 68 | 129 => 70 | 317 => 69 | 318 => 71 | 319 => 72 | 320 => 73 | 337 => 74 | 338 => 75 | n => n, fun | 3 => 3 | 9 => 9 | 2 => 2 | 4 => 4 | 171 => 93 | 0 => 0 | 53 => 71 | 37 => 61 | 5 => 5 | 173 => 96 | 212 => 99 | 51 => 80 | 20 => 20 | 213 => 100 | 46 => 69 | 232 => 103 | 233 => 104 | n => n, fun | 17 => 5 | 18 => 6 | 19 => 7 | n => n⟩
theorem Tryd.laysM171 : Go.Proofs.LaysM.n171 Tryd.prog Tryd.laysM171_ren := {
  mixed := by kernel_rfl
  f129 := Tryd.func70.trans (congrArg some (by kernel_rfl))
  f171 := Tryd.func33.trans (congrArg some (by kernel_rfl))
  f243 := Tryd.func47.trans (congrArg some (by kernel_rfl))
  f246 := Tryd.func60.trans (congrArg some (by kernel_rfl))
  f283 := Tryd.func65.trans (congrArg some (by kernel_rfl))
  f284 := Tryd.func66.trans (congrArg some (by kernel_rfl))
  f285 := Tryd.func67.trans (congrArg some (by kernel_rfl))
  f286 := Tryd.func68.trans (congrArg some (by kernel_rfl))
  f317 := Tryd.func69.trans (congrArg some (by kernel_rfl))
  f318 := Tryd.func71.trans (congrArg some (by kernel_rfl))
  f319 := Tryd.func72.trans (congrArg some (by kernel_rfl))
  f320 := Tryd.func73.trans (congrArg some (by kernel_rfl))
  f337 := Tryd.func74.trans (congrArg some (by kernel_rfl))
  f338 := Tryd.func75.trans (congrArg some (by kernel_rfl))
  t0 := Tryd.underlying0
  a0 := Tryd.isAgg0
  z0 := Tryd.sizeOf0
  v0 := Tryd.zeroValue0
  t2 := Tryd.underlying2
  a2 := Tryd.isAgg2
  z2 := Tryd.sizeOf2
  v2 := Tryd.zeroValue2
  t3 := Tryd.underlying3
  a3 := Tryd.isAgg3
  z3 := Tryd.sizeOf3
  v3 := Tryd.zeroValue3
  t4 := Tryd.underlying4
  a4 := Tryd.isAgg4
  z4 := Tryd.sizeOf4
  v4 := Tryd.zeroValue4
  t5 := Tryd.underlying5
  a5 := Tryd.isAgg5
  z5 := Tryd.sizeOf5
  v5 := Tryd.zeroValue5
  t9 := Tryd.underlying9
  a9 := Tryd.isAgg9
  z9 := Tryd.sizeOf9
  v9 := Tryd.zeroValue9
  t20 := Tryd.underlying20
  a20 := Tryd.isAgg20
  z20 := Tryd.sizeOf20
  v20 := Tryd.zeroValue20
  t37 := Tryd.underlying61
  a37 := Tryd.isAgg61
  z37 := Tryd.sizeOf61
  v37 := Tryd.zeroValue61
  t46 := Tryd.underlying69
  a46 := Tryd.isAgg69
  z46 := Tryd.sizeOf69
  v46 := Tryd.zeroValue69
  t51 := Tryd.underlying80
  a51 := Tryd.isAgg80
  z51 := Tryd.sizeOf80
  v51 := Tryd.zeroValue80
  t53 := Tryd.underlying71
  a53 := Tryd.isAgg71
  z53 := Tryd.sizeOf71
  v53 := Tryd.zeroValue71
  t171 := Tryd.underlying93
  a171 := Tryd.isAgg93
  z171 := Tryd.sizeOf93
  v171 := Tryd.zeroValue93
  t173 := Tryd.underlying96
  a173 := Tryd.isAgg96
  z173 := Tryd.sizeOf96
  v173 := Tryd.zeroValue96
  t212 := Tryd.underlying99
  a212 := Tryd.isAgg99
  z212 := Tryd.sizeOf99
  v212 := Tryd.zeroValue99
  t213 := Tryd.underlying100
  a213 := Tryd.isAgg100
  z213 := Tryd.sizeOf100
  t232 := Tryd.underlying103
  a232 := Tryd.isAgg103
  z232 := Tryd.sizeOf103
  v232 := Tryd.zeroValue103
  t233 := Tryd.underlying104
  a233 := Tryd.isAgg104
  z233 := Tryd.sizeOf104
  v233 := Tryd.zeroValue104
  g17 := by kernel_rfl
  g18 := by kernel_rfl
  g19 := by kernel_rfl
  i0 := by kernel_rfl
  i2 := by kernel_rfl
  i3 := by kernel_rfl
  i4 := by kernel_rfl
  i5 := by kernel_rfl
  i9 := by kernel_rfl
  i20 := by kernel_rfl
  i37 := by kernel_rfl
  i46 := by kernel_rfl
  i51 := by kernel_rfl
  i53 := by kernel_rfl
  i171 := by kernel_rfl
  i173 := by kernel_rfl
  i212 := by kernel_rfl
  i232 := by kernel_rfl
  i233 := by kernel_rfl
  m17 := by kernel_rfl
  m18 := by kernel_rfl
  m19 := by kernel_rfl }
open Go.RowKit Go.Sort Go.Lib in
theorem Tryd.strconv_Itoa (n : Int) (h0 : -9223372036854775808 ≤ n) (h1 : n ≤ 9223372036854775807) (w : World) (htab : Lib.TabIs Tryd.prog w "internal/strconv.uint64pow10" .u64 Lib.pow10Tab) :
    Calls Tryd.prog 33 #[.int .i64 n] w fun e w' => e = .returned (.string ⟨(Lib.itoa n).toArray⟩) ∧ ∃ k os, w' = grow (w.drewN k) os := Any.strconv_Itoa Tryd.laysM171 n h0 h1 w htab
def Tryd.lays219_ren : Go.Shelf.Ren := ⟨fun | 219 => 35 | 217 => 46 | 225 => 49 | 224 => 50 | 267 => 51 | 266 => 59 | 314 => 61 | n => n, fun | 9 => 9 | 3 => 3 | 4 => 4 | 5 => 5 | 46 => 69 | 146 => 81 | 51 => 80 | n => n, fun | 1 => 0 | n => n⟩
theorem Tryd.lays219 : Go.Proofs.Lays.n219 Tryd.prog Tryd.lays219_ren := {
  mixed := by kernel_rfl
  f217 := Tryd.func46.trans (congrArg some (by kernel_rfl))
  f219 := Tryd.func35.trans (congrArg some (by kernel_rfl))
  f224 := Tryd.func50.trans (congrArg some (by kernel_rfl))
  f225 := Tryd.func49.trans (congrArg some (by kernel_rfl))
  f266 := Tryd.func59.trans (congrArg some (by kernel_rfl))
  f267 := Tryd.func51.trans (congrArg some (by kernel_rfl))
  f314 := Tryd.func61.trans (congrArg some (by kernel_rfl))
  t3 := Tryd.underlying3
  a3 := Tryd.isAgg3
  z3 := Tryd.sizeOf3
  v3 := Tryd.zeroValue3
  t4 := Tryd.underlying4
  a4 := Tryd.isAgg4
  z4 := Tryd.sizeOf4
  v4 := Tryd.zeroValue4
  t5 := Tryd.underlying5
  a5 := Tryd.isAgg5
  z5 := Tryd.sizeOf5
  v5 := Tryd.zeroValue5
  t9 := Tryd.underlying9
  a9 := Tryd.isAgg9
  z9 := Tryd.sizeOf9
  v9 := Tryd.zeroValue9
  t46 := Tryd.underlying69
  a46 := Tryd.isAgg69
  z46 := Tryd.sizeOf69
  v46 := Tryd.zeroValue69
  t51 := Tryd.underlying80
  a51 := Tryd.isAgg80
  z51 := Tryd.sizeOf80
  v51 := Tryd.zeroValue80
  t146 := Tryd.underlying81
  a146 := Tryd.isAgg81
  z146 := Tryd.sizeOf81
  v146 := Tryd.zeroValue81
  g1 := by kernel_rfl }
open Go.RowKit Go.Lib in
theorem Tryd.stringslite_Index_one (s : ByteArray) (c : UInt8) (w : World) :
    Calls Tryd.prog 35 #[.string s, .string ⟨#[c]⟩] w fun e w' => e = .returned (.int .i64 (Lib.indexByte s.data.toList c)) ∧ w' = w := Any.stringslite_Index_one Tryd.lays219 s c w
def Tryd.lays153_ren : Go.Shelf.Ren := ⟨fun | 153 => 45 | 152 => 53 | 226 => 58 | 227 => 24 | 228 => 36 | 137 => 32 | 119 => 62 | 224 => 50 | 225 => 49 | 217 => 46 | 266 => 59 | n => n, fun | 9 => 9 | 3 => 3 | 4 => 4 | 5 => 5 | 21 => 21 | 117 => 47 | 116 => 46 | 0 => 0 | 46 => 69 | 124 => 50 | n => n, fun | n => n⟩
theorem Tryd.lays153 : Go.Proofs.Lays.n153 Tryd.prog Tryd.lays153_ren := {
  mixed := by kernel_rfl
  f119 := Tryd.func62.trans (congrArg some (by kernel_rfl))
  f137 := Tryd.func32.trans (congrArg some (by kernel_rfl))
  f152 := Tryd.func53.trans (congrArg some (by kernel_rfl))
  f153 := Tryd.func45.trans (congrArg some (by kernel_rfl))
  f217 := Tryd.func46.trans (congrArg some (by kernel_rfl))
  f224 := Tryd.func50.trans (congrArg some (by kernel_rfl))
  f225 := Tryd.func49.trans (congrArg some (by kernel_rfl))
  f226 := Tryd.func58.trans (congrArg some (by kernel_rfl))
  f227 := Tryd.func24.trans (congrArg some (by kernel_rfl))
  f228 := Tryd.func36.trans (congrArg some (by kernel_rfl))
  f266 := Tryd.func59.trans (congrArg some (by kernel_rfl))
  t0 := Tryd.underlying0
  a0 := Tryd.isAgg0
  z0 := Tryd.sizeOf0
  v0 := Tryd.zeroValue0
  t3 := Tryd.underlying3
  a3 := Tryd.isAgg3
  z3 := Tryd.sizeOf3
  v3 := Tryd.zeroValue3
  t4 := Tryd.underlying4
  a4 := Tryd.isAgg4
  z4 := Tryd.sizeOf4
  v4 := Tryd.zeroValue4
  t5 := Tryd.underlying5
  a5 := Tryd.isAgg5
  z5 := Tryd.sizeOf5
  v5 := Tryd.zeroValue5
  t9 := Tryd.underlying9
  a9 := Tryd.isAgg9
  z9 := Tryd.sizeOf9
  v9 := Tryd.zeroValue9
  t21 := Tryd.underlying21
  a21 := Tryd.isAgg21
  z21 := Tryd.sizeOf21
  v21 := Tryd.zeroValue21
  t46 := Tryd.underlying69
  a46 := Tryd.isAgg69
  z46 := Tryd.sizeOf69
  v46 := Tryd.zeroValue69
  t116 := Tryd.underlying46
  a116 := Tryd.isAgg46
  z116 := Tryd.sizeOf46
  t117 := Tryd.underlying47
  a117 := Tryd.isAgg47
  z117 := Tryd.sizeOf47
  v117 := Tryd.zeroValue47
  t124 := Tryd.underlying50
  a124 := Tryd.isAgg50
  z124 := Tryd.sizeOf50
  v124 := Tryd.zeroValue50 }
open Go.RowKit Go.Lib in
theorem Tryd.strings_IndexAny_long (hv116 : ∀ w, (zeroValue 46).run Tryd.prog w = .ok (.agg (Array.replicate 256 (.bool false))) w) (s chars : ByteArray) (w : World) (h2 : 2 ≤ chars.size) (h8 : 8 < s.size) (hs : s.size < 4294967281) (hcs : chars.size < 4294967281) (hascii : ∀ (j : Nat) b, chars.data.toList[j]? = some b → b.toNat < 128) :
    Calls Tryd.prog 45 #[.string s, .string chars] w fun e w' => e = .returned (.int .i64 (Lib.indexAny s.data.toList chars.data.toList)) ∧ w' = ((w.alloc (.cells (Lib.setCells chars.data.toList) 46)).alloc (.cells (Lib.setCells chars.data.toList) 46)) := Any.strings_IndexAny_long Tryd.lays153 hv116 (by kernel_rfl) s chars w h2 h8 hs hcs hascii
end Go.Proofs
namespace Go.Creel
open Go.RowKit
theorem valid_of {r : Int} (h : Lib.validRune r = true) : Utf8.valid r = true := by
  unfold Lib.validRune at h
  unfold Utf8.valid
  simp at h ⊢
  omega
theorem get_byt! (s : ByteArray) (k : Nat) (h : k < s.size) : (s.get! k).toNat = byt s k := by
  rw [← byt_get s k h]
  simp [ByteArray.get!, getElem!_pos, h]
  rfl
theorem decode_skips (s : ByteArray) (pos : Nat) : ∀ k, 1 ≤ k → k < (Utf8.decode s pos).2 → pos + k < s.size ∧ 128 ≤ byt s (pos + k) := by
  have key : ∀ k, 1 ≤ k → k < (Utf8.decode s pos).2 → pos + k < s.size ∧ 128 ≤ (s.get! (pos + k)).toNat := by
    simp only [Utf8.decode]
    repeat' split
    all_goals
      intro k h1 h2
      simp only at h2
      have hk : k = 1 ∨ k = 2 ∨ k = 3 := by omega
      rcases hk with rfl | rfl | rfl <;> simp_all <;> omega
  intro k h1 h2
  obtain ⟨h3, h4⟩ := key k h1 h2
  exact ⟨h3, by rw [← get_byt! s _ h3]; exact h4⟩
def keyBad (s : ByteArray) : Bool := hasB s 61 || hasB s 10
theorem keyBad_yes {s : ByteArray} {k : Nat} (h : k < s.size) (e : byt s k = 61 ∨ byt s k = 10) : keyBad s = true := by
  unfold keyBad
  rcases e with e | e
  · rw [hasB_true h (c := 61) e]; rfl
  · rw [hasB_true h (c := 10) e, Bool.or_true]
theorem keyBad_no {s : ByteArray} (h : ∀ k, k < s.size → byt s k ≠ 61 ∧ byt s k ≠ 10) : keyBad s = false := by
  unfold keyBad
  rw [hasB_false (c := 61) (fun k hk => (h k hk).1), hasB_false (c := 10) (fun k hk => (h k hk).2)]; rfl
def RetIdx (w : World) (b : Bool) (e : Ending) (w' : World) : Prop := ∃ m : Int, e = .returned (.int .i64 m) ∧ decide (0 ≤ m) = b ∧ Below w.heap.size w w'
end Go.Creel
namespace Go.Proofs.YtjmifcddkjcopaaDoor
open Go.Creel Go.RowKit
set_option maxRecDepth 100000 in
set_option maxHeartbeats 1000000 in
theorem Rune_bad (r : Int) (w : World) (h0 : 128 ≤ r) (h1 : r ≤ 2147483647) (he : r ≠ 65533) (hv : Lib.validRune r = false) :
    Calls Tryd.prog 53 #[.string ⟨#[61, 10]⟩, .int .i32 r] w fun e w' => e = .returned (.int .i64 (-1)) ∧ w = w' := by
  have q0 : ¬ r < 128 := by omega
  have q1 : (r == 65533) = false := by rw [beq_eq_false_iff_ne]; exact he
  have HV := Lib.hid hv
  clear hv he
  go_enter Tryd.func53, Tryd.ntmps53
  go_wp2_with (go_at_call 62; refine (Tryd.utf8_ValidRune _ _).mono ?_; rintro e w' ⟨rfl, hw⟩; rw [hw, HV.out])
  go_ret
  exact ⟨rfl, rfl⟩
set_option maxRecDepth 100000 in
set_option maxHeartbeats 1000000 in
theorem Rune_long (r : Int) (w : World) (h0 : 128 ≤ r) (h1 : r ≤ 2147483647) (he : r ≠ 65533) (hv : Lib.validRune r = true) (e : ByteArray) (hE : Utf8.encode r = e) (h2 : 3 ≤ e.size) (h4 : e.size ≤ 4) :
    Calls Tryd.prog 53 #[.string ⟨#[61, 10]⟩, .int .i32 r] w fun e w' => e = .returned (.int .i64 (-1)) ∧ w = w' := by
  have q0 : ¬ r < 128 := by omega
  have q1 : (r == 65533) = false := by rw [beq_eq_false_iff_ne]; exact he
  have HV := Lib.hid hv
  have q2 : ¬ ((e.size : Int) - 1 < 2) := by omega
  clear hv he
  go_enter Tryd.func53, Tryd.ntmps53
  go_wp2_with (go_at_call 62; refine (Tryd.utf8_ValidRune _ _).mono ?_; rintro e w' ⟨rfl, hw⟩; rw [hw, HV.out])
  go_step3
  go_wp2
  go_loop [9, 10, 11, 12] (fun v9 v10 _ _ => v9 = .int .i64 (e.size - 1) ∧ v10 = .int .i64 0) (fun _ _ _ _ => 0)
  case atStart => exact ⟨rfl, rfl⟩
  case round =>
    obtain ⟨rfl, rfl⟩ := hrel
    go_wp2
    first | rw [Exit.noGoto_ret] | skip
    go_ret
    exact ⟨rfl, rfl⟩
set_option maxRecDepth 100000 in
set_option maxHeartbeats 1000000 in
theorem Rune_two (r : Int) (w : World) (h0 : 128 ≤ r) (h1 : r ≤ 2147483647) (he : r ≠ 65533) (hv : Lib.validRune r = true) (a b : UInt8) (hE : Utf8.encode r = ⟨#[a, b]⟩) (hb : 128 ≤ b.toNat) :
    Calls Tryd.prog 53 #[.string ⟨#[61, 10]⟩, .int .i32 r] w fun e w' => e = .returned (.int .i64 (-1)) ∧ Below w.heap.size w w' := by
  have q0 : ¬ r < 128 := by omega
  have q1 : (r == 65533) = false := by rw [beq_eq_false_iff_ne]; exact he
  have HV := Lib.hid hv
  have q2 : ((10 : Int) == (b.toNat : Int)) = false := by rw [beq_eq_false_iff_ne]; omega
  have q3 : ((10 : Int) != (b.toNat : Int)) = true := by rw [bne, q2]; rfl
  have q4 : ((((ByteArray.mk #[61, 10])[1]'(by decide)).toNat : Int) != (((ByteArray.mk #[a, b])[1]'(show 1 < 2 by omega)).toNat : Int)) = true := q3
  have hsz : (ByteArray.mk #[a, b]).size = 2 := rfl
  clear hv he
  go_enter Tryd.func53, Tryd.ntmps53
  go_wp2_with (go_at_call 62; refine (Tryd.utf8_ValidRune _ _).mono ?_; rintro e w' ⟨rfl, hw⟩; rw [hw, HV.out])
  go_step3
  go_wp2
  go_loop [9, 10, 11, 12] (fun v9 v10 _ _ => v9 = .int .i64 1 ∧ v10 = .int .i64 0) (fun _ _ _ _ => 0)
  case atStart => exact ⟨rfl, rfl⟩
  case round =>
    obtain ⟨rfl, rfl⟩ := hrel
    go_wp2
    go_step3
    go_wp2
    go_quiet (fail)
    go_wp2
    have hw2 : IntKind.i64.wrap ((1 : Int) + 1) = 2 := rfl
    have hw3 : IntKind.i64.wrap (2 : Int) = 2 := rfl
    have hsl : ∀ w, (Instr.slice 9 (.string ⟨#[61, 10]⟩) (some (.int .i64 2)) none none).run Tryd.prog w = .ok (.string ⟨#[]⟩) w := fun w => by kernel_rfl
    have hsl2 : ∀ w, (Instr.sliceAt 9 (.string ⟨#[61, 10]⟩) (some (.int .i64 2)) none none).run Tryd.prog w = .ok (.string ⟨#[]⟩) w := fun w => by kernel_rfl
    go_still_tail 7, (by kernel_rfl)
    go_wp2_with fail
    refine (IndexByte_any _ _ _).mono ?_
    rintro e w' ⟨rfl, rfl⟩
    rw [show firstIdx (ByteArray.mk #[]) ((((ByteArray.mk #[a, b])[1]'(show 1 < 2 by omega)).toNat : Int).toNat.toUInt8) = -1 from rfl]
    go_wp2
    rw [Exit.noGoto_ret]
    go_wp2
    first | rw [Exit.noGoto_ret] | skip
    go_ret
    exact ⟨rfl, rfl, rfl, rfl, Nat.le_refl _, fun _ _ => rfl⟩
set_option maxRecDepth 100000 in
set_option maxHeartbeats 1000000 in
theorem Rune_err (w : World) :
    Calls Tryd.prog 53 #[.string ⟨#[61, 10]⟩, .int .i32 65533] w fun e w' => e = .returned (.int .i64 (-1)) ∧ Below w.heap.size w w' := by
  go_enter Tryd.func53, Tryd.ntmps53
  go_wp2
  obtain ⟨s, hs⟩ : ∃ s : ByteArray, s = ⟨#[61, 10]⟩ := ⟨_, rfl⟩
  rw [← hs]
  have hsz : s.size = 2 := by rw [hs]; rfl
  have HX := Lib.hid (show ∀ k (h : k < s.size), (s[k]'h).toNat < 128 from by
    subst hs
    intro k h
    have : k = 0 ∨ k = 1 := by have : (ByteArray.mk #[61, 10]).size = 2 := rfl; omega
    rcases this with rfl | rfl
    · show (61 : UInt8).toNat < 128; decide
    · show (10 : UInt8).toNat < 128; decide)
  clear hs
  go_loopg [5, 6] 2 (fun g _ _ wx => ∃ i : Nat, i + g = 2 ∧ wx = w.iter s i)
  case atStart => exact ⟨0, by omega, rfl⟩
  case round =>
    obtain ⟨i, hig, rfl⟩ := hrel
    cases gk with
    | zero =>
      obtain rfl : i = 2 := by omega
      have hnx := run_next_end (P := Tryd.prog) w s 2
      go_wp2
      go_ret
      exact ⟨rfl, (Below.refl _ _).alloc (Nat.le_refl _) _⟩
    | succ g =>
      have hi : i < s.size := by omega
      have hx := HX.out i hi
      have hnx := fun ty => run_next_ascii (P := Tryd.prog) w s i ty hi hx
      have hne : (((s[i]'hi).toNat : Int) == 65533) = false := by rw [beq_eq_false_iff_ne]; omega
      go_wp2
      go_roundg g
      case measure => omega
      case rel => exact ⟨i + 1, by omega, rfl⟩
set_option maxRecDepth 100000 in
set_option maxHeartbeats 1000000 in
theorem Rune_asc (r : Int) (w : World) (h0 : 0 ≤ r) (h1 : r < 128) :
    Calls Tryd.prog 53 #[.string ⟨#[61, 10]⟩, .int .i32 r] w fun e w' => e = .returned (.int .i64 (firstIdx ⟨#[61, 10]⟩ r.toNat.toUInt8)) ∧ Below w.heap.size w w' := by
  have HI := Lib.hid (fun w => IndexByte_any ⟨#[61, 10]⟩ r w)
  go_enter Tryd.func53, Tryd.ntmps53
  go_wp2_with fail
  refine (HI.out _).mono ?_
  rintro e w' ⟨rfl, rfl⟩
  go_wp2
  go_ret
  exact ⟨rfl, Below.refl _ _⟩
theorem Rune_high (r : Int) (w : World) (h0 : 128 ≤ r) (h1 : r ≤ 2147483647) :
    Calls Tryd.prog 53 #[.string ⟨#[61, 10]⟩, .int .i32 r] w fun e w' => e = .returned (.int .i64 (-1)) ∧ Below w.heap.size w w' := by
  by_cases he : r = 65533
  · subst he; exact Rune_err w
  · cases hv : Lib.validRune r with
    | false => exact (Rune_bad r w h0 h1 he hv).mono fun e w' ⟨a, b⟩ => ⟨a, by rw [← b]; exact Below.refl _ _⟩
    | true =>
      obtain ⟨e1, e2, e3⟩ := encode_facts r (valid_of hv) h0
      by_cases h3 : 3 ≤ (Utf8.encode r).size
      · exact (Rune_long r w h0 h1 he hv _ rfl h3 e2).mono fun e w' ⟨a, b⟩ => ⟨a, by rw [← b]; exact Below.refl _ _⟩
      · have h2 : (Utf8.encode r).data.toList.length = 2 := by rw [← Lib.size_eq]; omega
        obtain ⟨a, b, hab⟩ : ∃ a b, (Utf8.encode r).data.toList = [a, b] := by
          match hl : (Utf8.encode r).data.toList, h2 with
          | [a, b], _ => exact ⟨a, b, rfl⟩
        have hE : Utf8.encode r = ⟨#[a, b]⟩ := ext_bytes (by rw [hab])
        refine Rune_two r w h0 h1 he hv a b hE ?_
        have := e3 (by omega)
        simp only [hE] at this
        exact this
end Go.Proofs.YtjmifcddkjcopaaDoor
namespace Go.Creel
open Go.RowKit
theorem below_iterAt {B k q : Nat} {w wr : World} {s : ByteArray} (h : Below B w wr) (hk : B ≤ k) : Below B w (wr.iterAt k s q) := by
  refine ⟨h.os, h.tape, h.output, by simp [World.iterAt]; exact h.size, fun b hb => ?_⟩
  have : (wr.iterAt k s q).heap[b]? = wr.heap[b]? := by
    simp only [World.iterAt]
    rw [Array.getElem?_setIfInBounds_ne (by omega)]
  rw [this]; exact h.block b hb
def NoSign (s : ByteArray) (p : Nat) : Prop := p ≤ s.size ∧ ∀ j, j < p → byt s j ≠ 61 ∧ byt s j ≠ 10
theorem NoSign.next {s : ByteArray} {p : Nat} (h : NoSign s p) (hp : p < s.size) (hx : byt s p ≠ 61 ∧ byt s p ≠ 10) : p < p + (Utf8.decode s p).2 ∧ NoSign s (p + (Utf8.decode s p).2) := by
  have hn : 1 ≤ (Utf8.decode s p).2 := by
    by_cases h128 : (s[p]'hp).toNat < 128
    · rw [decode_ascii s p hp h128]; exact Nat.le_refl _
    · exact (decode_high s p hp (by omega)).2
  have hsk := decode_skips s p
  generalize (Utf8.decode s p).2 = n at *
  refine ⟨by omega, ?_, fun j hj => ?_⟩
  · by_cases h1 : n = 1
    · omega
    · have := (hsk (n - 1) (by omega) (by omega)).1; omega
  · rcases Nat.lt_trichotomy j p with e | e | e
    · exact h.2 j e
    · rw [e]; exact hx
    · obtain ⟨k, rfl⟩ : ∃ k, j = p + k := ⟨j - p, by omega⟩
      have := (hsk k (by omega) (by omega)).2
      omega
end Go.Creel
namespace Go.Proofs.YtjmifcddkjcopaaDoor
open Go.Creel Go.RowKit
theorem ascii_idx {x : Nat} (hx : x < 128) : decide (0 ≤ firstIdx ⟨#[61, 10]⟩ ((x : Int).toNat.toUInt8)) = (decide (x = 61) || decide (x = 10)) := by
  rw [idx_has]
  unfold hasB
  have e : ((x : Int).toNat.toUInt8).toNat = x := by simp; omega
  have key : ∀ c : UInt8, (c == (x : Int).toNat.toUInt8) = decide (x = c.toNat) := by
    intro c
    rw [Bool.eq_iff_iff, beq_iff_eq, decide_eq_true_eq]
    constructor
    · intro h; rw [h, e]
    · intro h; exact UInt8.toNat_inj.1 (by rw [e]; exact h.symm)
  simp only [List.any_cons, List.any_nil, key, Bool.or_false]
  rfl
theorem UseSet_any (n : Int) (w : World) :
    Calls Tryd.prog 58 #[.int .i64 n] w fun e w' => e = .returned (.bool (decide (8 < n))) ∧ w = w' := by
  go_enter Tryd.func58, Tryd.ntmps58
  go_wp2
  go_ret
  exact ⟨rfl, rfl⟩
set_option maxRecDepth 100000 in
set_option maxHeartbeats 2000000 in
theorem IndexAny_short (s : ByteArray) (w : World) (h8 : s.size ≤ 8) :
    Calls Tryd.prog 45 #[.string s, .string ⟨#[61, 10]⟩] w (RetIdx w (keyBad s)) := by
  have h8z : decide ((8 : Int) < (s.size : Int)) = false := decide_eq_false (by omega)
  have HYES := Lib.hid (fun k hk e => keyBad_yes (s := s) (k := k) hk e)
  have HNO := Lib.hid (keyBad_no (s := s))
  go_enter Tryd.func45, Tryd.ntmps45
  go_wp2_with (go_at_call 58; refine (UseSet_any _ _).mono ?_; rintro e w' ⟨rfl, rfl⟩; rw [h8z])
  go_loopg [9, 10] s.size (fun g _ _ wx => ∃ p : Nat, s.size ≤ p + g ∧ Hid (wx.heap[w.heap.size]? = some (.stringIter s p)) ∧ Hid (Below w.heap.size w wx) ∧ Hid (NoSign s p))
  case atStart => exact ⟨0, by omega, Lib.hid (World.iter_heap w s 0), Lib.hid ((Below.refl _ _).alloc (Nat.le_refl _) _), Lib.hid ⟨by omega, fun j hj => absurd hj (by omega)⟩⟩
  case round =>
    obtain ⟨p, hpg, HIT, HB, HS⟩ := hrel
    by_cases hlt : p < s.size
    · obtain ⟨g, rfl⟩ : ∃ g, gk = g + 1 := ⟨gk - 1, by omega⟩
      have hnx : ∀ ty, (Instr.next (.pointer (some ⟨w.heap.size, 0, none⟩)) true ty).run Tryd.prog wr = _ := fun ty => Lib.run_next_any_at wr w.heap.size s p ty HIT.out hlt
      have HNX := Lib.hid (fun hx => HS.out.next hlt hx)
      have HHIT := Lib.hid (fun e => HYES.out p hlt e)
      have HI2 := Lib.hid (fun q => Lib.iterAt_heap wr w.heap.size s p q HIT.out)
      have HB2 := Lib.hid (fun q => below_iterAt (q := q) (s := s) HB.out (Nat.le_refl _))
      by_cases h128 : (s[p]'hlt).toNat < 128
      · have hdec := decode_ascii s p hlt h128
        have hby := byt_get s p hlt
        rw [hdec] at hnx HNX
        rw [hby] at hnx h128
        have HR := Lib.hid (fun w => Rune_asc ((byt s p : Nat) : Int) w (by omega) (by omega))
        have HAI := Lib.hid (ascii_idx h128)
        clear hdec hby HIT
        generalize byt s p = x at *
        generalize firstIdx ⟨#[61, 10]⟩ ((x : Int).toNat.toUInt8) = m at *
        simp only at hnx HNX
        go_wp2_with fail
        refine (HR.out _).mono ?_
        rintro e w3 ⟨rfl, hb⟩
        have HB3 := Lib.hid ((HB2.out _).trans (hb.mono (HB2.out _).size))
        have HI3 := Lib.hid ((hb.block w.heap.size (Array.getElem?_eq_some_iff.1 (HI2.out (p + 1))).1).trans (HI2.out (p + 1)))
        clear hb hnx
        by_cases hx : x = 61 ∨ x = 10
        · have HK := Lib.hid (HHIT.out hx)
          have hd : decide (0 ≤ m) = true := by rw [HAI.out]; simpa using hx
          clear hx
          go_wp2
          go_ret
          exact ⟨_, rfl, by rw [HK.out]; simp, HB3.out⟩
        · have HN := Lib.hid (HNX.out ⟨fun e => hx (.inl e), fun e => hx (.inr e)⟩)
          have hd : decide (0 ≤ m) = false := by rw [HAI.out]; simpa using hx
          clear hx
          go_wp2
          go_roundg g
          case measure => omega
          case rel => exact ⟨p + 1, by omega, HI3, HB3, Lib.hid HN.out.2⟩
      · obtain ⟨hr1, hr2⟩ := decode_high s p hlt (by omega)
        have hr3 := decode_le s p
        have hby := byt_get s p hlt
        have HN := Lib.hid (HNX.out (by rw [← hby]; omega))
        have HR := Lib.hid (fun w => Rune_high (((Utf8.decode s p).1 : Nat) : Int) w (by omega) (by omega))
        clear hby HIT HNX HHIT
        generalize Utf8.decode s p = d at *
        obtain ⟨d1, d2⟩ := d
        simp only at hnx HN hr1 hr2 hr3 HR
        have hpd : s.size ≤ p + d2 + g := by omega
        go_wp2_with fail
        refine (HR.out _).mono ?_
        rintro e w3 ⟨rfl, hb⟩
        have HB3 := Lib.hid ((HB2.out _).trans (hb.mono (HB2.out _).size))
        have HI3 := Lib.hid ((hb.block w.heap.size (Array.getElem?_eq_some_iff.1 (HI2.out (p + d2))).1).trans (HI2.out (p + d2)))
        clear hb hnx
        go_wp2
        go_roundg g
        case measure => omega
        case rel => exact ⟨p + d2, by omega, HI3, HB3, Lib.hid HN.out.2⟩
    · have HK := Lib.hid (HNO.out (fun k hk => HS.out.2 k (by omega)))
      have hnx : ∀ ty, (Instr.next (.pointer (some ⟨w.heap.size, 0, none⟩)) true ty).run Tryd.prog wr = _ := fun ty => Lib.run_next_end_at wr w.heap.size s p ty HIT.out hlt
      go_wp2
      go_ret
      exact ⟨_, rfl, by rw [HK.out]; rfl, HB.out⟩
end Go.Proofs.YtjmifcddkjcopaaDoor
namespace Go.Creel
open Go.RowKit
theorem indexAny_bad : ∀ l : List UInt8, decide (0 ≤ Lib.indexAny l [61, 10]) = l.any (fun b => b == 61 || b == 10)
  | [] => rfl
  | b :: l => by
    have ih := indexAny_bad l
    have hge := Lib.indexAny_ge [61, 10] l
    unfold Lib.indexAny
    have hc : ([61, 10] : List UInt8).contains b = (b == 61 || b == 10) := by simp [List.contains, List.elem]; cases (b == 61) <;> cases (b == 10) <;> rfl
    rw [hc, List.any_cons]
    cases hb : (b == 61 || b == 10) with
    | true => simp
    | false =>
      rw [Bool.false_or, ← ih]
      by_cases h1 : Lib.indexAny l [61, 10] = -1
      · simp [h1]
      · have : (Lib.indexAny l [61, 10] == -1) = false := by rw [beq_eq_false_iff_ne]; exact h1
        rw [if_neg (by simp), if_neg (by rw [this]; simp)]
        exact decide_eq_decide.2 ⟨fun h => by omega, fun h => by omega⟩
theorem any_keyBad (s : ByteArray) : s.data.toList.any (fun b => b == 61 || b == 10) = keyBad s := by
  unfold keyBad hasB
  induction s.data.toList with
  | nil => rfl
  | cons b l ih => simp only [List.any_cons, ih]; cases b == 61 <;> cases b == 10 <;> simp
end Go.Creel
namespace Go.Proofs.YtjmifcddkjcopaaDoor
open Go.Creel Go.RowKit
theorem ascii_chars : ∀ (j : Nat) b, (ByteArray.mk #[61, 10]).data.toList[j]? = some b → b.toNat < 128 := by
  intro j b h
  have : j = 0 ∨ j = 1 ∨ 2 ≤ j := by omega
  rcases this with rfl | rfl | hj
  · cases h; decide
  · cases h; decide
  · have : (ByteArray.mk #[61, 10]).data.toList[j]? = none := List.getElem?_eq_none (by show 2 ≤ j; exact hj)
    rw [this] at h; cases h
theorem IndexAny_any (s : ByteArray) (w : World) (hs : s.size ≤ 4000000000) :
    Calls Tryd.prog 45 #[.string s, .string ⟨#[61, 10]⟩] w (RetIdx w (keyBad s)) := by
  by_cases h8 : s.size ≤ 8
  · exact IndexAny_short s w h8
  · refine (Tryd.strings_IndexAny_long (fun w => by kernel_rfl) s ⟨#[61, 10]⟩ w (show 2 ≤ 2 by omega) (by omega) (by omega) (show 2 < 4294967281 by omega) ascii_chars).mono ?_
    rintro e w' ⟨rfl, rfl⟩
    exact ⟨_, rfl, (indexAny_bad _).trans (any_keyBad s), ((Below.refl _ _).alloc (Nat.le_refl _) _).alloc (by simp) _⟩
set_option maxRecDepth 100000 in
theorem ContainsAny_any (s : ByteArray) (w : World) (hs : s.size ≤ 4000000000) :
    Calls Tryd.prog 31 #[.string s, .string ⟨#[61, 10]⟩] w fun e w' => e = .returned (.bool (keyBad s)) ∧ Below w.heap.size w w' := by
  have HI := Lib.hid (IndexAny_any s w hs)
  go_enter Tryd.func31, Tryd.ntmps31
  go_wp2_with fail
  refine HI.out.mono ?_
  rintro e w2 ⟨m, rfl, hm, hb⟩
  have HB := Lib.hid hb
  clear hb
  go_wp2
  go_ret
  exact ⟨rfl, HB.out⟩
end Go.Proofs.YtjmifcddkjcopaaDoor
namespace Go.Creel
def recFault (r : Rec) : Int :=
  if r.key.size < 1 ∨ 60 < r.key.size ∨ 500 < r.value.size then 1 else if (keyBad r.key || hasB r.value 0) = true then 3 else 0
def Rec.cells (r : Rec) : Array Go.Value := #[.string r.key, .string r.value]
theorem recFault_one {r : Rec} (h : r.key.size < 1 ∨ 60 < r.key.size ∨ 500 < r.value.size) : recFault r = 1 := by unfold recFault; rw [if_pos h]
theorem recFault_two {r : Rec} (h : ¬ (r.key.size < 1 ∨ 60 < r.key.size ∨ 500 < r.value.size)) (h2 : (keyBad r.key || hasB r.value 0) = true) : recFault r = 3 := by unfold recFault; rw [if_neg h, if_pos h2]
theorem recFault_none {r : Rec} (h : ¬ (r.key.size < 1 ∨ 60 < r.key.size ∨ 500 < r.value.size)) (h2 : (keyBad r.key || hasB r.value 0) = false) : recFault r = 0 := by unfold recFault; rw [if_neg h, if_neg (by rw [h2]; simp)]
theorem recFault_ok {r : Rec} (h : recFault r = 0) : 1 ≤ r.key.size ∧ r.key.size ≤ 60 ∧ r.value.size ≤ 500 ∧ keyBad r.key = false ∧ hasB r.value 0 = false := by
  by_cases h1 : r.key.size < 1 ∨ 60 < r.key.size ∨ 500 < r.value.size
  · rw [recFault_one h1] at h; cases h
  · cases h2 : (keyBad r.key || hasB r.value 0) with
    | true => rw [recFault_two h1 h2] at h; cases h
    | false => simp only [Bool.or_eq_false_iff] at h2; exact ⟨by omega, by omega, by omega, h2.1, h2.2⟩
end Go.Creel
namespace Go.Proofs.YtjmifcddkjcopaaDoor
open Go.Creel Go.RowKit
set_option maxRecDepth 100000 in
set_option maxHeartbeats 1000000 in
theorem RecL_any (r : Rec) (w : World) (hk : r.key.size ≤ maxLen) (hv : r.value.size ≤ maxLen) :
    Calls Tryd.prog 14 #[.agg r.cells] w fun e w' => e = .returned (.int .i64 (recFault r)) ∧ Below w.heap.size w w' := by
  obtain ⟨key, value⟩ := r
  unfold maxLen at hk hv
  show Calls Tryd.prog 14 #[.agg #[.string key, .string value]] w _
  simp only at hk hv
  by_cases h1 : key.size < 1 ∨ 60 < key.size ∨ 500 < value.size
  · have HF := Lib.hid (recFault_one (r := ⟨key, value⟩) h1)
    by_cases ha : key.size < 1
    · clear h1
      go_enter Tryd.func14, Tryd.ntmps14
      go_wp2
      go_ret
      rw [HF.out]
      exact ⟨rfl, (Below.refl _ _).alloc (Nat.le_refl _) _⟩
    · by_cases hb : 60 < key.size
      · clear h1
        go_enter Tryd.func14, Tryd.ntmps14
        go_wp2
        go_ret
        rw [HF.out]
        exact ⟨rfl, (Below.refl _ _).alloc (Nat.le_refl _) _⟩
      · have hc : 500 < value.size := by omega
        clear h1
        go_enter Tryd.func14, Tryd.ntmps14
        go_wp2
        go_ret
        rw [HF.out]
        exact ⟨rfl, (Below.refl _ _).alloc (Nat.le_refl _) _⟩
  · have hk1 : ¬ key.size < 1 := by omega
    have hk2 : ¬ 60 < key.size := by omega
    have hv2 : ¬ 500 < value.size := by omega
    have hix := idx_has value 0
    cases hb1 : keyBad key with
    | true =>
      have HF := Lib.hid (recFault_two (r := ⟨key, value⟩) h1 (by simp [hb1]))
      have HA := Lib.hid (fun W => by have := ContainsAny_any key W (by omega); rw [hb1] at this; exact this)
      clear h1 hix hb1
      go_enter Tryd.func14, Tryd.ntmps14
      go_wp2_with fail
      refine (HA.out _).mono ?_
      rintro e w1 ⟨rfl, hb⟩
      have HB := Lib.hid (((Below.refl _ _).alloc (Nat.le_refl _) _).trans (hb.mono (by simp)))
      clear hb
      go_wp2
      go_ret
      rw [HF.out]
      exact ⟨rfl, HB.out⟩
    | false =>
      have HA := Lib.hid (fun W => by have := ContainsAny_any key W (by omega); rw [hb1] at this; exact this)
      cases hh : hasB value 0 with
      | true =>
        have HF := Lib.hid (recFault_two (r := ⟨key, value⟩) h1 (by simp [hb1, hh]))
        rw [hh] at hix
        clear h1 hb1 hh
        go_enter Tryd.func14, Tryd.ntmps14
        go_wp2_with fail
        refine (HA.out _).mono ?_
        rintro e w1 ⟨rfl, hb⟩
        have HB := Lib.hid (((Below.refl _ _).alloc (Nat.le_refl _) _).trans (hb.mono (by simp)))
        obtain ⟨hc, _⟩ := bcell hb
        clear hb
        go_wp2_with (go_at_call 32; refine (IndexByte_any _ _ _).mono ?_; rintro e w' ⟨rfl, rfl⟩)
        go_ret
        rw [HF.out]
        exact ⟨rfl, HB.out⟩
      | false =>
        have HF := Lib.hid (recFault_none (r := ⟨key, value⟩) h1 (by simp [hb1, hh]))
        rw [hh] at hix
        clear h1 hb1 hh
        go_enter Tryd.func14, Tryd.ntmps14
        go_wp2_with fail
        refine (HA.out _).mono ?_
        rintro e w1 ⟨rfl, hb⟩
        have HB := Lib.hid (((Below.refl _ _).alloc (Nat.le_refl _) _).trans (hb.mono (by simp)))
        obtain ⟨hc, _⟩ := bcell hb
        clear hb
        go_wp2_with (go_at_call 32; refine (IndexByte_any _ _ _).mono ?_; rintro e w' ⟨rfl, rfl⟩)
        go_ret
        rw [HF.out]
        exact ⟨rfl, HB.out⟩
set_option maxRecDepth 100000 in
set_option maxHeartbeats 1000000 in
theorem RecR_any (r : Rec) (w : World) (hk : r.key.size ≤ maxLen) (hv : r.value.size ≤ maxLen) :
    Calls Tryd.prog 34 #[.agg r.cells] w fun e w' => e = .returned (.int .i64 (recFault r)) ∧ Below w.heap.size w w' := by
  obtain ⟨key, value⟩ := r
  have hk' := hk
  have hv' := hv
  unfold maxLen at hk hv
  show Calls Tryd.prog 34 #[.agg #[.string key, .string value]] w _
  simp only at hk hv hk' hv'
  have HA := Lib.hid (fun W => has_any key 61 61 rfl W hk')
  have HA2 := Lib.hid (fun W => has_any key 10 10 rfl W hk')
  have HA3 := Lib.hid (fun W => has_any value 0 0 rfl W hv')
  clear hk' hv'
  by_cases h1 : key.size < 1 ∨ 60 < key.size ∨ 500 < value.size
  · have HF := Lib.hid (recFault_one (r := ⟨key, value⟩) h1)
    by_cases ha : key.size = 0
    · have he := empty_t ha
      clear h1
      go_enter Tryd.func34, Tryd.ntmps34
      go_wp2
      go_ret
      rw [HF.out]
      exact ⟨rfl, (Below.refl _ _).alloc (Nat.le_refl _) _⟩
    · have he := empty_f ha
      by_cases hb : 60 < key.size
      · clear h1
        go_enter Tryd.func34, Tryd.ntmps34
        go_wp2
        go_ret
        rw [HF.out]
        exact ⟨rfl, (Below.refl _ _).alloc (Nat.le_refl _) _⟩
      · have hc : 500 < value.size := by omega
        clear h1
        go_enter Tryd.func34, Tryd.ntmps34
        go_wp2
        go_ret
        rw [HF.out]
        exact ⟨rfl, (Below.refl _ _).alloc (Nat.le_refl _) _⟩
  · have he := empty_f (a := key) (by omega)
    have hk2 : ¬ 60 < key.size := by omega
    have hv2 : ¬ 500 < value.size := by omega
    cases ha : hasB key 61 with
    | true =>
      have HF := Lib.hid (recFault_two (r := ⟨key, value⟩) h1 (by simp [keyBad, ha]))
      have HH := Lib.hid ha
      clear h1 ha
      go_enter Tryd.func34, Tryd.ntmps34
      go_wp2_with (go_at_call 48; refine (HA.out _).mono ?_; rintro e w' ⟨rfl, rfl⟩; rw [HH.out])
      go_ret
      rw [HF.out]
      exact ⟨rfl, (Below.refl _ _).alloc (Nat.le_refl _) _⟩
    | false =>
      cases hb : hasB key 10 with
      | true =>
        have HF := Lib.hid (recFault_two (r := ⟨key, value⟩) h1 (by simp [keyBad, ha, hb]))
        have HH := Lib.hid ha
        have HH2 := Lib.hid hb
        clear h1 ha hb
        go_enter Tryd.func34, Tryd.ntmps34
        go_wp2_with fail
        refine (HA.out _).mono ?_
        rintro e w' ⟨rfl, rfl⟩
        rw [HH.out]
        go_wp2_with fail
        refine (HA2.out _).mono ?_
        rintro e w' ⟨rfl, rfl⟩
        rw [HH2.out]
        go_wp2
        go_ret
        rw [HF.out]
        exact ⟨rfl, (Below.refl _ _).alloc (Nat.le_refl _) _⟩
      | false =>
        cases hc : hasB value 0 with
        | true =>
          have HF := Lib.hid (recFault_two (r := ⟨key, value⟩) h1 (by simp [keyBad, ha, hb, hc]))
          have HH := Lib.hid ha
          have HH2 := Lib.hid hb
          have HH3 := Lib.hid hc
          clear h1 ha hb hc
          go_enter Tryd.func34, Tryd.ntmps34
          go_wp2_with fail
          refine (HA.out _).mono ?_
          rintro e w' ⟨rfl, rfl⟩
          rw [HH.out]
          go_wp2_with fail
          refine (HA2.out _).mono ?_
          rintro e w' ⟨rfl, rfl⟩
          rw [HH2.out]
          go_wp2_with fail
          refine (HA3.out _).mono ?_
          rintro e w' ⟨rfl, rfl⟩
          rw [HH3.out]
          go_wp2
          go_ret
          rw [HF.out]
          exact ⟨rfl, (Below.refl _ _).alloc (Nat.le_refl _) _⟩
        | false =>
          have HF := Lib.hid (recFault_none (r := ⟨key, value⟩) h1 (by simp [keyBad, ha, hb, hc]))
          have HH := Lib.hid ha
          have HH2 := Lib.hid hb
          have HH3 := Lib.hid hc
          clear h1 ha hb hc
          go_enter Tryd.func34, Tryd.ntmps34
          go_wp2_with fail
          refine (HA.out _).mono ?_
          rintro e w' ⟨rfl, rfl⟩
          rw [HH.out]
          go_wp2_with fail
          refine (HA2.out _).mono ?_
          rintro e w' ⟨rfl, rfl⟩
          rw [HH2.out]
          go_wp2_with fail
          refine (HA3.out _).mono ?_
          rintro e w' ⟨rfl, rfl⟩
          rw [HH3.out]
          go_wp2
          go_ret
          rw [HF.out]
          exact ⟨rfl, (Below.refl _ _).alloc (Nat.le_refl _) _⟩
end Go.Proofs.YtjmifcddkjcopaaDoor
