/-
  A map of the call's own, as a list of keys and values: looked up and written, whatever its values are. No program is named here.
-/
import Derived.Test.YtaffgndickdbiaaDoorBase
import Derived.MapKept
import Derived.Maps.OwnSet
namespace Go.Creel
set_option linter.unusedVariables false
set_option linter.unusedSimpArgs false
set_option linter.unusedSectionVars false
open Go.RowKit
/-- a kind of keys: the model compares them at once -/
structure KeyOn {κ : Type} [DecidableEq κ] (kind : TypeDesc) (mk : κ → Value) : Prop where
  same : ∀ a b, Instr.sameNow kind (mk a) (mk b) = some (decide (a = b))
  bits : ∀ a, Instr.sameBits 10000 (mk a) (mk a) = true
  check : ∀ {P : Program} {t : TypeId} (w : World) (a : κ), P.underlying t = some kind → (Instr.checkKey false 10000 t (mk a)).run P w = .ok () w
  checkE : ∀ {P : Program} {t : TypeId} (w : World) (a : κ), P.underlying t = some kind → (Instr.checkKey true 10000 t (mk a)).run P w = .ok () w
theorem checkKey_succ (b : Bool) (t : TypeId) (v : Value) : Instr.checkKey b 10000 t v = Instr.checkKey b (9999 + 1) t v := rfl
theorem bab (a b : ByteArray) : (a == b) = decide (a = b) := by
  have h : (a == b) = (a.data == b.data) := rfl
  rw [h, Bool.eq_iff_iff, beq_iff_eq, decide_eq_true_iff]
  exact ⟨fun h => ByteArray.ext h, fun h => by rw [h]⟩
theorem keyOn_int : KeyOn (.int .i64) (fun n : Int => Value.int .i64 n) where
  same a b := by simp [Instr.sameNow, Bool.beq_eq_decide_eq]
  bits a := by simp [Instr.sameBits]
  check w a h := by rw [checkKey_succ]; unfold Instr.checkKey; simp [run_underlying h, Result.andThen]
  checkE w a h := by rw [checkKey_succ]; unfold Instr.checkKey; simp [run_underlying h, Result.andThen]
theorem keyOn_str : KeyOn .string (fun s : ByteArray => Value.string s) where
  same a b := by simp [Instr.sameNow, bab]
  bits a := by simp [Instr.sameBits, bab]
  check w a h := by rw [checkKey_succ]; unfold Instr.checkKey; simp [run_underlying h, Result.andThen]
  checkE w a h := by rw [checkKey_succ]; unfold Instr.checkKey; simp [run_underlying h, Result.andThen]
section
variable {κ : Type} [DecidableEq κ]
def assoc (k : κ) : List (κ × Value) → Option Value
  | [] => none
  | p :: r => if k = p.1 then some p.2 else assoc k r
def assocPut (k : κ) (v : Value) : List (κ × Value) → List (κ × Value)
  | [] => [(k, v)]
  | p :: r => if k = p.1 then (k, v) :: r else p :: assocPut k v r
theorem assoc_put (k k' : κ) (v : Value) : ∀ l, assoc k' (assocPut k v l) = if k' = k then some v else assoc k' l
  | [] => by simp [assocPut, assoc]
  | p :: r => by
    have ih := assoc_put k k' v r
    unfold assocPut
    by_cases h : k = p.1
    · rw [if_pos h]
      unfold assoc
      by_cases h2 : k' = k
      · simp [h2]
      · rw [if_neg h2, if_neg h2, if_neg (by rw [← h]; exact h2)]
    · rw [if_neg h]
      unfold assoc
      by_cases h2 : k' = p.1
      · rw [if_pos h2, if_pos h2, if_neg (by rw [h2]; exact fun e => h e.symm)]
      · rw [if_neg h2, if_neg h2, ih]
/-- block b is a map with just these keys and values -/
def MapIs (mk : κ → Value) (w : World) (b : Nat) (l : List (κ × Value)) : Prop :=
  ∃ es clock, w.heap[b]? = some (.map es clock) ∧ es.toList.map (fun e => (e.key, e.val)) = l.map (fun p => (mk p.1, p.2))
theorem MapIs.lt {mk : κ → Value} {w : World} {b : Nat} {l : List (κ × Value)} (h : MapIs mk w b l) : b < w.heap.size := by
  obtain ⟨es, clock, hb, _⟩ := h
  exact (Array.getElem?_eq_some_iff.1 hb).1
theorem MapIs.below {mk : κ → Value} {w w' : World} {b : Nat} {l : List (κ × Value)} {B : Nat} (h : MapIs mk w b l) (hb : Below B w w') (hB : b < B) : MapIs mk w' b l := by
  obtain ⟨es, clock, h1, h2⟩ := h
  exact ⟨es, clock, (hb.block b hB).trans h1, h2⟩
theorem MapIs.of_heap {mk : κ → Value} {w w' : World} {b : Nat} {l : List (κ × Value)} (h : MapIs mk w b l) (hb : w'.heap[b]? = w.heap[b]?) : MapIs mk w' b l := by
  obtain ⟨es, clock, h1, h2⟩ := h
  exact ⟨es, clock, hb.trans h1, h2⟩
theorem MapIs.made (mk : κ → Value) (w : World) : MapIs mk (w.alloc (.map #[] 0)) w.heap.size ([] : List (κ × Value)) := ⟨#[], 0, heap_alloc_new w _, rfl⟩
theorem findNow_spec {kind : TypeDesc} {mk : κ → Value} (K : KeyOn kind mk) (k : κ) (u : Value) : ∀ (es : List MapEntry) (l : List (κ × Value)) (i : Nat), es.map (fun e => (e.key, e.val)) = l.map (fun p => (mk p.1, p.2)) →
    (assoc k l = none ∧ Instr.findNow kind (mk k) es i = some none ∧ assocPut k u l = l ++ [(k, u)]) ∨
    ∃ j v e, assoc k l = some v ∧ Instr.findNow kind (mk k) es i = some (some (i + j, v)) ∧ es[j]? = some e ∧ e.key = mk k ∧ (es.modify j (fun e => { e with key := mk k, val := u })).map (fun e => (e.key, e.val)) = (assocPut k u l).map (fun p => (mk p.1, p.2))
  | [], [], _, _ => .inl ⟨rfl, rfl, rfl⟩
  | [], p :: l, _, h => by simp at h
  | e :: es, [], _, h => by simp at h
  | e :: es, p :: l, i, h => by
    simp only [List.map_cons, List.cons.injEq, Prod.mk.injEq] at h
    obtain ⟨⟨hk, hv⟩, hr⟩ := h
    have hs := K.same k p.1
    by_cases hkp : k = p.1
    · right
      refine ⟨0, p.2, e, by simp [assoc, hkp], ?_, rfl, by rw [hk, hkp], ?_⟩
      · unfold Instr.findNow
        rw [hk, hs, hkp]
        simp [hv]
      · simp [assocPut, hkp, hr]
    · have hf : Instr.findNow kind (mk k) (e :: es) i = Instr.findNow kind (mk k) es (i + 1) := by
        conv => lhs; unfold Instr.findNow
        rw [hk, hs]
        simp [hkp]
      rcases findNow_spec K k u es l (i + 1) hr with ⟨h1, h2, h3⟩ | ⟨j, v, e', h1, h2, h3, h4, h5⟩
      · left
        exact ⟨by simp [assoc, hkp, h1], by rw [hf, h2], by simp [assocPut, hkp, h3]⟩
      · right
        refine ⟨j + 1, v, e', by simp [assoc, hkp, h1], by rw [hf, h2]; congr 3; omega, by simpa using h3, h4, ?_⟩
        simp [assocPut, hkp, h5, hk, hv]
variable {P : Program} {w : World} {mk : κ → Value} {kind : TypeDesc} {b : Nat} {l : List (κ × Value)}
theorem MapIs.checked (K : KeyOn kind mk) {k : TypeId} (hk : P.underlying k = some kind) (c : Bool) (a : κ) : (Instr.checkKey c 10000 k (mk a)).run P w = .ok () w := by
  cases c
  · exact K.check w a hk
  · exact K.checkE w a hk
theorem MapIs.look_some (h : MapIs mk w b l) (K : KeyOn kind mk) {t k e : TypeId} (ht : P.underlying t = some (.map k e)) (hk : P.underlying k = some kind) {a : κ} {v : Value} (ha : assoc a l = some v) (ok : Bool) :
    (Instr.lookup t (.map (some b)) (mk a) ok).run P w = .ok (if ok then .tuple #[v, .bool true] else v) w := by
  obtain ⟨es, clock, hb, hes⟩ := h
  rcases findNow_spec K a undef es.toList l 0 hes with ⟨h1, _⟩ | ⟨j, v', e', h1, h2, _⟩
  · rw [h1] at ha; cases ha
  · rw [h1] at ha
    cases ha
    unfold Instr.lookup Instr.findKey
    simp only [Sem.run_bind, run_underlying ht, Result.andThen_ok, MapKept.run_getObj_map hb, MapIs.checked K hk, run_underlying hk, h2, Sem.run_pure]
theorem MapIs.look_none (h : MapIs mk w b l) (K : KeyOn kind mk) {t k e : TypeId} (ht : P.underlying t = some (.map k e)) (hk : P.underlying k = some kind) {a : κ} {z : Value} (ha : assoc a l = none) (hz : (zeroValue e).run P w = .ok z w) (ok : Bool) :
    (Instr.lookup t (.map (some b)) (mk a) ok).run P w = .ok (if ok then .tuple #[z, .bool false] else z) w := by
  obtain ⟨es, clock, hb, hes⟩ := h
  rcases findNow_spec K a undef es.toList l 0 hes with ⟨h1, h2, _⟩ | ⟨j, v', e', h1, h2, _⟩
  · unfold Instr.lookup Instr.findKey
    simp only [Sem.run_bind, run_underlying ht, Result.andThen_ok, MapKept.run_getObj_map hb, MapIs.checked K hk, run_underlying hk, h2, Sem.run_pure, hz]
  · rw [h1] at ha; cases ha
theorem MapIs.put (h : MapIs mk w b l) (K : KeyOn kind mk) {t k e : TypeId} (ht : P.underlying t = some (.map k e)) (hk : P.underlying k = some kind) (a : κ) (u : Value) :
    ∃ w', (Instr.mapUpdate t (.map (some b)) (mk a) u).run P w = .ok () w' ∧ MapIs mk w' b (assocPut a u l) ∧ w.grownBy w' (some b) := by
  obtain ⟨es, clock, hb, hes⟩ := h
  have hlt : b < w.heap.size := (Array.getElem?_eq_some_iff.1 hb).1
  rcases findNow_spec K a u es.toList l 0 hes with ⟨h1, h2, h3⟩ | ⟨j, v', e', h1, h2, h3, h4, h5⟩
  · refine ⟨_, by
      unfold Instr.mapUpdate Instr.findKey
      simp only [Sem.run_bind, run_underlying ht, Result.andThen_ok, MapKept.run_getObj_map hb, MapIs.checked K hk, run_underlying hk, h2, Sem.run_pure]
      exact MapKept.run_setObj_map _ hb, ?_, ?_⟩
    · refine ⟨_, _, by simp [hlt]; exact ⟨rfl, rfl⟩, ?_⟩
      rw [h3]
      simp [hes]
    · exact ⟨rfl, rfl, rfl, by simp, fun i _ hi => by
        simp only [Array.getElem?_setIfInBounds]
        rw [if_neg (fun e => hi (by rw [e]))]⟩
  · have hej : es[j]? = some e' := by simpa using h3
    refine ⟨_, by
      unfold Instr.mapUpdate Instr.findKey Instr.keyThatStays
      simp only [Sem.run_bind, run_underlying ht, Result.andThen_ok, MapKept.run_getObj_map hb, MapIs.checked K hk, run_underlying hk, h2, Sem.run_pure, Nat.zero_add, hej, Option.map_some, Option.getD_some, h4, K.bits, if_true]
      exact MapKept.run_setObj_map _ hb, ?_, ?_⟩
    · refine ⟨_, _, by simp [hlt]; exact ⟨rfl, rfl⟩, ?_⟩
      rw [← h5]
      simp [Array.toList_modify]
    · exact ⟨rfl, rfl, rfl, by simp, fun i _ hi => by
        simp only [Array.getElem?_setIfInBounds]
        rw [if_neg (fun e => hi (by rw [e]))]⟩
end
/-- a map literal's entry, into a map just made -/
theorem map_put_new {κ : Type} [DecidableEq κ] {P : Program} {kind : TypeDesc} {mk : κ → Value} (K : KeyOn kind mk) {t k e : TypeId} (ht : P.underlying t = some (.map k e)) (hk : P.underlying k = some kind)
    (es : Array MapEntry) (clock : Nat) (a : κ) (u : Value) (hn : Instr.findNow kind (mk a) es.toList 0 = some none) (W : World) :
    (Instr.mapUpdate t (.map (some W.heap.size)) (mk a) u).run P (W.alloc (.map es clock)) = .ok () (W.alloc (.map (es.push { key := mk a, val := u, born := clock }) (clock + 1))) := by
  have hb : (W.alloc (.map es clock)).heap[W.heap.size]? = some (.map es clock) := heap_alloc_new W _
  unfold Instr.mapUpdate Instr.findKey
  simp only [Sem.run_bind, run_underlying ht, Result.andThen_ok, MapKept.run_getObj_map hb, MapIs.checked K hk, run_underlying hk, hn, Sem.run_pure]
  rw [MapKept.run_setObj_map _ hb]
  congr 1
  simp only [World.alloc]
  congr 1
  apply Array.ext_getElem?
  intro i
  simp only [Array.getElem?_setIfInBounds, Array.getElem?_push, Array.size_push]
  by_cases hi : W.heap.size = i
  · subst hi; simp
  · rw [if_neg hi, if_neg (fun e => hi e.symm), if_neg (fun e => hi e.symm)]
theorem map_look_new {κ : Type} [DecidableEq κ] {P : Program} {kind : TypeDesc} {mk : κ → Value} (K : KeyOn kind mk) {t k e : TypeId} (ht : P.underlying t = some (.map k e)) (hk : P.underlying k = some kind)
    (es : Array MapEntry) (clock : Nat) (a : κ) (i : Nat) (v : Value) (hn : Instr.findNow kind (mk a) es.toList 0 = some (some (i, v))) (W : World) :
    (Instr.lookup t (.map (some W.heap.size)) (mk a) false).run P (W.alloc (.map es clock)) = .ok v (W.alloc (.map es clock)) := by
  have hb : (W.alloc (.map es clock)).heap[W.heap.size]? = some (.map es clock) := heap_alloc_new W _
  unfold Instr.lookup Instr.findKey
  simp only [Sem.run_bind, run_underlying ht, Result.andThen_ok, MapKept.run_getObj_map hb, MapIs.checked K hk, run_underlying hk, hn, Sem.run_pure]
  rfl
/-- 'm[k] = v' for the walk -/
theorem wpList_put {κ : Type} [DecidableEq κ] {P : Program} (w : World) {ops : Array Oper} {rest : List Oper} {o : Oper} {a : Act} {Q : Exit → Act → World → Prop}
    (hg : o.guard = none) (m x v : Operand) (t : TypeId) (hop : o.op = Op.mapUpdate t m x v)
    {mk : κ → Value} {kind : TypeDesc} (K : KeyOn kind mk) (k e : TypeId) (ht : P.underlying t = some (.map k e)) (hk : P.underlying k = some kind) (b : Nat) (l : List (κ × Value))
    (hm : a.eval m = .map (some b)) (hown : MapIs mk w b l) (key : κ) (val : Value) (hx : a.eval x = mk key) (hv : a.eval v = val)
    (hK : ∀ w', MapIs mk w' b (assocPut key val l) → w.grownBy w' (some b) → wpList P ops Q rest (a.put o.dst undef) w') :
    wpList P ops Q (o :: rest) a w := by
  refine wpList_plain hg fun K' hK' => ?_
  obtain ⟨w', hrun, r1, r2⟩ := hown.put K ht hk key val
  unfold Oper.wp
  simp [execOp, hop, hm, hx, hv, hrun, Result.andThen]
  exact hK' _ _ (hK w' r1 r2)
end Go.Creel
