/-
  Texts: Recs, PaxSpec, Append, RecsOwn, PaxOf, PaxL, PaxRd, RecsSame, Bulk.
-/
import Derived.Deep.AppendSrc
import Derived.Lib.AppendZeros
import Derived.Laws.OwnMore
import Derived.Test.YtjmifcddkjcopaaDoorR03
set_option linter.unusedVariables false
set_option linter.unusedSimpArgs false
set_option linter.unusedSectionVars false
namespace Go.Creel
open Go.RowKit
def rk (l : List Rec) (k : Nat) : Rec := l.getD k ⟨ByteArray.empty, ByteArray.empty⟩
theorem recs_cases {N : Nat} {w : World} {v : Value} {l : List Rec} (h : SliceC N 2 (RecC N) w [v] l) : (∃ a cap, v = .slice a 0 cap ∧ l = []) ∨
    ∃ b off cap, v = .slice (some ⟨b, off, none⟩) l.length cap ∧ 0 < l.length ∧ l.length ≤ cap ∧ cap ≤ maxLen ∧ l.length ≤ N ∧
      ∀ i, i < l.length → (w.cell? ⟨b, off + i * 2, none⟩ = some (.string (rk l i).key) ∧ w.cell? ⟨b, off + i * 2 + 1, none⟩ = some (.string (rk l i).value)) ∧ (rk l i).key.size ≤ N ∧ (rk l i).value.size ≤ N := by
  obtain ⟨a, cap, hv, h1, h2, h3, _, h4⟩ := h
  simp only [List.cons.injEq, and_true] at hv
  by_cases hl : 0 < l.length
  · obtain ⟨b, off, rfl, hc⟩ := h4 hl
    refine .inr ⟨b, off, cap, hv, hl, h1, h2, h3, fun i hi => ?_⟩
    obtain ⟨c, _, hcc, hE, hn⟩ := hc i hi
    have e0 := hcc 0 (by omega)
    have e1 := hcc 1 (by omega)
    rw [hE] at e0 e1
    have hr : rk l i = l[i] := by simp [rk, List.getD_eq_getElem?_getD, List.getElem?_eq_getElem hi]
    rw [hr]
    exact ⟨⟨by simpa using e0, by simpa using e1⟩, hn⟩
  · have : l = [] := by
      cases l with
      | nil => rfl
      | cons x r => simp at hl
    subst this
    exact .inl ⟨a, cap, by simpa using hv, rfl⟩
open Go.RowKit
def firstF (step : Nat → Int) : Nat → Int
  | 0 => 0
  | n + 1 => if firstF step n = 0 then step n else firstF step n
theorem firstF_ok {step : Nat → Int} : ∀ {n : Nat}, (∀ j, j < n → step j = 0) → firstF step n = 0
  | 0, _ => rfl
  | n + 1, h => by
    have ih := firstF_ok (n := n) (fun j hj => h j (by omega))
    simp only [firstF]
    rw [if_pos ih]
    exact h n (by omega)
theorem firstF_at {step : Nat → Int} {k : Nat} (hz : ∀ j, j < k → step j = 0) (hne : step k ≠ 0) : ∀ {n : Nat}, k < n → firstF step n = step k
  | 0, h => absurd h (by omega)
  | n + 1, h => by
    simp only [firstF]
    by_cases e : k = n
    · subst e
      rw [if_pos (firstF_ok hz)]
    · have ih := firstF_at hz hne (n := n) (by omega)
      rw [if_neg (by rw [ih]; exact hne), ih]
def leS (a b : ByteArray) : Bool := Op.bytesLess a.toList b.toList || a.toList == b.toList
theorem leS_a {a b : ByteArray} (h : Op.bytesLess a.toList b.toList = true) : leS a b = true := by unfold leS; rw [h]; rfl
theorem leS_b {a b : ByteArray} (h : (a.toList == b.toList) = true) : leS a b = true := by unfold leS; rw [h]; simp
theorem leS_c {a b : ByteArray} (h : Op.bytesLess a.toList b.toList = false) (h2 : (a.toList == b.toList) = false) : leS a b = false := by unfold leS; rw [h, h2]; rfl
theorem leS_empty {a : ByteArray} (h : 1 ≤ a.size) : Op.bytesLess a.toList [] = false ∧ a.toList.isEmpty = false := by
  have hl : a.toList.length = a.size := by rw [Lib.toList_data]; exact (Lib.size_eq a).symm
  cases hh : a.toList with
  | nil => rw [hh] at hl; simp at hl; omega
  | cons x r => exact ⟨rfl, rfl⟩
def stepP (l : List Rec) (k : Nat) : Int :=
  if recFault (rk l k) ≠ 0 then recFault (rk l k) else if 0 < k ∧ leS (rk l k).key (rk l (k - 1)).key = true then 6 else 0
def paxFault (l : List Rec) : Int := if 12 < l.length then 1 else firstF (stepP l) l.length
theorem paxFault_many {l : List Rec} (h : 12 < l.length) : paxFault l = 1 := by unfold paxFault; rw [if_pos h]
theorem paxFault_at {l : List Rec} {k : Nat} {e : Int} (hl : l.length ≤ 12) (hk : k < l.length) (hz : ∀ j, j < k → stepP l j = 0) (he : stepP l k = e) (hne : e ≠ 0) : paxFault l = e := by
  unfold paxFault; rw [if_neg (by omega), firstF_at hz (by rw [he]; exact hne) hk, he]
theorem paxFault_ok {l : List Rec} (hl : l.length ≤ 12) (hz : ∀ j, j < l.length → stepP l j = 0) : paxFault l = 0 := by
  unfold paxFault; rw [if_neg (by omega), firstF_ok hz]
theorem stepP_rec {l : List Rec} {k : Nat} {e : Int} (he : recFault (rk l k) = e) (h : e ≠ 0) : stepP l k = e := by unfold stepP; rw [if_pos (by rw [he]; exact h), he]
theorem stepP_le {l : List Rec} {k : Nat} (h : recFault (rk l k) = 0) (h0 : 0 < k) (h1 : leS (rk l k).key (rk l (k - 1)).key = true) : stepP l k = 6 := by unfold stepP; rw [if_neg (by rw [h]; simp), if_pos ⟨h0, h1⟩]
theorem stepP_ok {l : List Rec} {k : Nat} (h : recFault (rk l k) = 0) (h0 : 0 < k → leS (rk l k).key (rk l (k - 1)).key = false) : stepP l k = 0 := by
  unfold stepP
  rw [if_neg (by rw [h]; simp), if_neg]
  rintro ⟨a, b⟩
  rw [h0 a] at b; cases b
open Go.RowKit
def AppTo (P : Program) (w : World) (t tx ty : TypeId) (v x : Value) (base e size n m : Nat) (xs news : List Value) : Prop :=
  ∃ v' w', (Builtin.append_ #[t, tx] ty #[v, x]).run P w = .ok v' w' ∧ w'.ownsRow base e size v' (n + m) (xs ++ news) ∧ w.grownBy w' v.ownBlock ∧ (v' = .slice none 0 0 ↔ v = .slice none 0 0 ∧ m = 0) ∧ (v'.ownBlock = v.ownBlock ∨ ∃ b, v'.ownBlock = some b ∧ w.heap.size ≤ b)
theorem setCells_row (g : Nat) {e : TypeId} : ∀ (vs : List Value) (o : Nat) (w : World) (cur : Array Value), w.heap[g]? = some (.cells cur e (0, 0)) → o + vs.length ≤ cur.size →
    ∃ cur' : Array Value, (w.setCells g o vs).heap[g]? = some (.cells cur' e (0, 0)) ∧ cur'.size = cur.size ∧ cur'.toList.take (o + vs.length) = cur.toList.take o ++ vs
  | [], o, w, cur, h, _ => ⟨cur, h, rfl, by simp⟩
  | v :: r, o, w, cur, h, hl => by
    have h1 := heap_setCell_same w g o cur e v h
    obtain ⟨cur', a1, a2, a3⟩ := setCells_row g r (o + 1) (w.setCell ⟨g, o, none⟩ v) _ h1 (by simp at hl ⊢; omega)
    refine ⟨cur', a1, by simpa using a2, ?_⟩
    have e1 : o + (v :: r).length = o + 1 + r.length := by simp; omega
    rw [e1, a3]
    have ho : o < cur.toList.length := by simp at hl ⊢; omega
    rw [Array.toList_setIfInBounds, List.take_succ_eq_append_getElem (by simpa using ho)]
    simp [List.take_set, List.getElem_set]
    exact List.set_eq_of_length_le (by simp; omega)
theorem setCells_other (g : Nat) : ∀ (vs : List Value) (o : Nat) (w : World) (k : Nat), k ≠ g → (w.setCells g o vs).heap[k]? = w.heap[k]?
  | [], _, _, _, _ => rfl
  | v :: r, o, w, k, h => by
    rw [World.setCells, setCells_other g r _ _ k h]
    exact heap_setCell_other w ⟨g, o, none⟩ k v (by simpa using h)
theorem setCells_meta (g : Nat) : ∀ (vs : List Value) (o : Nat) (w : World), (w.setCells g o vs).os = w.os ∧ (w.setCells g o vs).tape = w.tape ∧ (w.setCells g o vs).output = w.output ∧ (w.setCells g o vs).heap.size = w.heap.size
  | [], _, _ => ⟨rfl, rfl, rfl, rfl⟩
  | v :: r, o, w => by
    obtain ⟨h1, h2, h3, h4⟩ := setCells_meta g r (o + 1) (w.setCell ⟨g, o, none⟩ v)
    exact ⟨h1, h2, h3, by rw [World.setCells, h4]; simp⟩
section
variable {P : Program} (w : World)
theorem own_grown (base e size n m old : Nat) (z : Value) (xs news : List Value) (hzs : z.cells.size = size) (hxs : xs.length = n * size) (hl : news.length = m * size) (h63 : n + m ≤ maxLen) (ho : old < n + m) (hbase : base ≤ w.heap.size) (row : Option Nat) :
    (w.drew.alloc (.cells ((xs ++ news).toArray ++ Builtin.zeroCells z.cells (grownCap w (n + m) old e - (n + m))) e)).ownsRow base e size
      (.slice (some ⟨w.heap.size, 0, none⟩) (n + m) (grownCap w (n + m) old e)) (n + m) (xs ++ news) ∧
    w.grownBy (w.drew.alloc (.cells ((xs ++ news).toArray ++ Builtin.zeroCells z.cells (grownCap w (n + m) old e - (n + m))) e)) row := by
  have hge := grownCap_ge w (n + m) old e
  have hcm : grownCap w (n + m) old e ≤ maxLen := grownCap_le_maxLen w (n + m) old e h63
  have hlen : (xs ++ news).length = (n + m) * size := by rw [List.length_append, hxs, hl, Nat.add_mul]
  refine ⟨⟨hlen, .inr ⟨w.heap.size, _, _, rfl, hbase, heap_alloc_new w.drew _, hge, hcm, ?_, ?_⟩⟩, ⟨rfl, rfl, rfl, by simp, fun k hk _ => heap_alloc_old w.drew _ hk⟩⟩
  · simp only [Array.size_append, List.size_toArray, size_zeroCells, hzs, hlen, ← Nat.add_mul]
    congr 1
    omega
  · simp only [Array.toList_append]
    rw [← hlen]
    exact List.take_left
theorem own_room (base e size n m g cap : Nat) (cur : Array Value) (xs news : List Value) (hxs : xs.length = n * size) (hl : news.length = m * size) (hbg : base ≤ g) (hg : w.heap[g]? = some (.cells cur e (0, 0))) (hcm : cap ≤ maxLen) (hcs : cur.size = cap * size)
    (htake : cur.toList.take (n * size) = xs) (hroom : n + m ≤ cap) :
    (w.setCells g (n * size) news).ownsRow base e size (.slice (some ⟨g, 0, none⟩) (n + m) cap) (n + m) (xs ++ news) ∧ w.grownBy (w.setCells g (n * size) news) (some g) := by
  have hfit : n * size + news.length ≤ cur.size := by rw [hl, hcs, ← Nat.add_mul]; exact Nat.mul_le_mul_right _ hroom
  obtain ⟨cur', a1, a2, a3⟩ := setCells_row g news (n * size) w cur hg hfit
  obtain ⟨m1, m2, m3, m4⟩ := setCells_meta g news (n * size) w
  refine ⟨⟨by rw [List.length_append, hxs, hl, Nat.add_mul], .inr ⟨g, cap, cur', rfl, hbg, a1, hroom, hcm, a2.trans hcs, ?_⟩⟩, ⟨m1, m2, m3, by omega, fun k _ hk => setCells_other g news _ w k (fun e => hk (by rw [e]))⟩⟩
  rw [← htake, ← a3, hl, ← Nat.add_mul]
theorem app_src (t tx ty base e : TypeId) (i : TypeInfo) (z : Value) (size bytes : Nat) (ht : P.underlying t = some (.slice e)) (hi : P.info? e = some i) (hz : i.zero = some z)
    (hsize : i.size = size) (hby : i.bytes = bytes) (hzs : z.cells.size = size) (hsz : 0 < size)
    (v x : Value) (n m : Nat) (xs news : List Value) (hown : w.ownsRow base e size v n xs) (hs : Src P size tx x m news w)
    (h63 : n + m ≤ maxLen) (hbytes : (n + m) * bytes ≤ 140737488355328) (hbase : base ≤ w.heap.size) : AppTo P w t tx ty v x base e size n m xs news := by
  subst hsize
  subst hby
  have hsmall : n + m ≤ 9223372036854775807 := by simp only [maxLen] at h63; omega
  rcases hown.2 with ⟨rfl, rfl⟩ | ⟨g, cap, cur, rfl, hbg, hg, hnc, hcm, hcs, htake⟩
  · have hx : xs = [] := List.eq_nil_of_length_eq_zero (by simpa using hown.1)
    subst hx
    by_cases hm : m = 0
    · subst hm
      have hn : news = [] := List.eq_nil_of_length_eq_zero (by simpa using hs.newsLen)
      subst hn
      refine ⟨.slice none 0 0, w, ?_, World.ownsRow_nil w base e i.size, ⟨rfl, rfl, rfl, Nat.le_refl _, fun _ _ _ => rfl⟩, ⟨by simp, .inl rfl⟩⟩
      rcases hs.kind with ⟨e', hk⟩ | hk <;> simp [Builtin.append_, run_underlying ht, run_underlying hk, sizeOf, typeInfo, hi, hs.len, hs.cells]
    · have hold : (Builtin.firstCells i.size 0 (.slice none 0 0)).run P w.drew = .ok ([] : List Value).toArray w.drew := run_firstCells_none w.drew i.size 0 0 0
      have hr := run_append_grow_src (P := P) w t tx ty e i z ht hi hz none 0 0 [] hold x m news hs (by omega) (by omega) (growslice_fits (by omega) (by simpa using hbytes))
      have hgr := own_grown w base e i.size 0 m 0 z [] news hzs (by simp) hs.newsLen h63 (by omega) hbase none
      exact ⟨_, _, hr, hgr.1, hgr.2, ⟨by simp [hm], .inr ⟨_, rfl, Nat.le_refl _⟩⟩⟩
  · by_cases hroom : n + m ≤ cap
    · have hfit : n * i.size + news.length ≤ cur.size := by rw [hs.newsLen, hcs, ← Nat.add_mul]; exact Nat.mul_le_mul_right _ hroom
      have hr := run_append_room_src (P := P) w t tx ty e i ht hi g 0 n cap x m news hs hroom
        (fun j hj => by rw [cell_of_row w g _ cur e (0, 0) hg, Nat.zero_add, Array.getElem?_eq_getElem (by omega)]; rfl) (fun j _ => frozen_of_row w g _ cur e hg)
      rw [Nat.zero_add] at hr
      have ho := own_room w base e i.size n m g cap cur xs news hown.1 hs.newsLen hbg hg hcm hcs htake hroom
      exact ⟨_, _, hr, ho.1, ho.2, ⟨by simp, .inl rfl⟩⟩
    · have holds : ∀ j u, xs[j]? = some u → w.drew.cell? ((⟨g, 0, none⟩ : Addr).add j) = some u := fun j u hu => hown.cells (g := g) rfl j u hu
      have hold := run_firstCells_some (P := P) w.drew i.size n ⟨g, 0, none⟩ n cap xs hown.1 holds
      have hr := run_append_grow_src (P := P) w t tx ty e i z ht hi hz (some ⟨g, 0, none⟩) n cap xs hold x m news hs (by omega) (by omega) (growslice_fits (by omega) hbytes)
      have hgr := own_grown w base e i.size n m cap z xs news hzs hown.1 hs.newsLen h63 (by omega) hbase (some g)
      exact ⟨_, _, hr, hgr.1, hgr.2, ⟨by simp, .inr ⟨_, rfl, Nat.le_refl _⟩⟩⟩
theorem wpList_app {ops : Array Oper} {rest : List Oper} {o : Oper} {a : Act} {Q : Exit → Act → World → Prop} (hgd : o.guard = none) (s x : Operand) (t tx : TypeId)
    (ho : o.op = .call { callee := .builtin .append, args := #[s, x], argTypes := #[t, tx] }) (vs vx : Value) (hs : a.eval s = vs) (hx : a.eval x = vx) {base e size n m : Nat} {xs news : List Value}
    (happ : ∀ ty, AppTo P w t tx ty vs vx base e size n m xs news)
    (h : ∀ v' w', w'.ownsRow base e size v' (n + m) (xs ++ news) → w.grownBy w' vs.ownBlock → ((v' = .slice none 0 0 ↔ vs = .slice none 0 0 ∧ m = 0) ∧ (v'.ownBlock = vs.ownBlock ∨ ∃ b, v'.ownBlock = some b ∧ w.heap.size ≤ b)) → wpList P ops Q rest (a.put o.dst v') w') : wpList P ops Q (o :: rest) a w := by
  obtain ⟨v', w', hr, h1, h2, h3⟩ := happ o.type
  exact Lib.wpList_append_run w hgd s x t tx ho vs vx hs hx v' w' hr (h v' w' h1 h2 h3)
end
def OwnBs (t : TypeId) (w : World) (B : Nat) (v : Value) (l : List UInt8) : Prop := w.ownsRow B t 1 v l.length (l.map byteV)
theorem OwnBs.nil (t : TypeId) (w : World) (B : Nat) : OwnBs t w B (.slice none 0 0) [] := World.ownsRow_nil w B t 1
theorem OwnBs.slice {t : TypeId} {w : World} {B N : Nat} {v : Value} {l : List UInt8} (h : OwnBs t w B v l) (hN : l.length ≤ N) : SliceC N 1 ByteC w [v] l := by
  rcases h.2 with ⟨rfl, h0⟩ | ⟨g, cap, cur, rfl, hbg, hg, hnc, hcm, hcs, htake⟩
  · obtain rfl : l = [] := List.eq_nil_of_length_eq_zero h0
    exact ⟨none, 0, rfl, by simp, by simp, by simp, fun _ => rfl, fun h => absurd h (by simp)⟩
  · refine ⟨some ⟨g, 0, none⟩, cap, rfl, hnc, hcm, hN, (fun h => by cases h), fun _ => ⟨g, 0, rfl, fun i hi => ⟨[byteV l[i]], rfl, fun j hj => ?_, rfl⟩⟩⟩
    obtain rfl : j = 0 := by omega
    have := OwnB.cell (t := t) (w := w) (B := B) (g := g) (cap := cap) (l := l) h hi
    simp only [Nat.zero_add, Nat.mul_one, Nat.add_zero]
    rw [this]
    simp [bl, byteV, List.getD_eq_getElem?_getD, List.getElem?_eq_getElem hi]
theorem OwnBs.form {t : TypeId} {w : World} {B : Nat} {v : Value} {l : List UInt8} (h : OwnBs t w B v l) : (v = .slice none 0 0 ∧ l = []) ∨ ∃ g cap, v = .slice (some ⟨g, 0, none⟩) l.length cap ∧ OwnB t w B g cap l := by
  rcases h.2 with ⟨rfl, h0⟩ | ⟨g, cap, cur, rfl, hbg, hg, hnc, hcm, hcs, htake⟩
  · exact .inl ⟨rfl, List.eq_nil_of_length_eq_zero h0⟩
  · exact .inr ⟨g, cap, rfl, h⟩
theorem OwnBs.app {t : TypeId} {w' : World} {B : Nat} {v' : Value} {l m : List UInt8} (h : w'.ownsRow B t 1 v' (l.length + m.length) (l.map byteV ++ m.map byteV)) : OwnBs t w' B v' (l ++ m) := by
  unfold OwnBs
  rw [List.length_append, List.map_append]
  exact h
theorem below_app {B : Nat} {w0 w w' : World} {e size n : Nat} {v : Value} {xs : List Value} (hb : Below B w0 w) (hg : w.grownBy w' v.ownBlock) (hv : w.ownsRow B e size v n xs) (hB : B ≤ w.heap.size) : Below B w0 w' :=
  hb.grown hg hB (fun k hk => (World.ownsRow.lt hv k hk).1)
open Go.RowKit
def Rec.cl (r : Rec) : List Value := [.string r.key, .string r.value]
theorem Rec.cl_len (r : Rec) : r.cl.length = 2 := rfl
theorem flatC_at : ∀ (l : List Rec) (k j : Nat), k < l.length → j < 2 → (l.flatMap Rec.cl)[k * 2 + j]? = (rk l k).cl[j]?
  | [], _, _, h, _ => absurd h (by simp)
  | x :: r, 0, j, _, hj => by
    rw [List.flatMap_cons, Nat.zero_mul, Nat.zero_add, List.getElem?_append_left (by rw [Rec.cl_len]; omega)]
    rfl
  | x :: r, k + 1, j, hk, hj => by
    rw [List.flatMap_cons, List.getElem?_append_right (by rw [Rec.cl_len]; omega), Rec.cl_len]
    have e : (k + 1) * 2 + j - 2 = k * 2 + j := by omega
    rw [e, flatC_at r k j (by simpa using hk) hj]
    rfl
def OwnRecs (t : TypeId) (w : World) (B : Nat) (v : Value) (l : List Rec) : Prop := w.ownsRow B t 2 v l.length (l.flatMap Rec.cl)
variable {t : TypeId} {w w' : World} {B : Nat} {v v' : Value} {l m : List Rec}
theorem OwnRecs.nil (t : TypeId) (w : World) (B : Nat) : OwnRecs t w B (.slice none 0 0) [] := World.ownsRow_nil w B t 2
theorem OwnRecs.below (h : OwnRecs t w B v l) (hb : Below w.heap.size w w') : OwnRecs t w' B v l := by
  refine ⟨h.1, ?_⟩
  rcases h.2 with h0 | ⟨g, cap, cur, hv, hbg, hg, r⟩
  · exact .inl h0
  · refine .inr ⟨g, cap, cur, hv, hbg, ?_, r⟩
    rw [hb.block g (Array.getElem?_eq_some_iff.1 hg).1]
    exact hg
theorem OwnRecs.form (h : OwnRecs t w B v l) : (v = .slice none 0 0 ∧ l = []) ∨ ∃ g cap, v = .slice (some ⟨g, 0, none⟩) l.length cap ∧ B ≤ g ∧ g < w.heap.size ∧ l.length ≤ cap ∧ cap ≤ maxLen := by
  rcases h.2 with ⟨rfl, h0⟩ | ⟨g, cap, cur, rfl, hbg, hg, hnc, hcm, hcs, htake⟩
  · exact .inl ⟨rfl, List.eq_nil_of_length_eq_zero h0⟩
  · exact .inr ⟨g, cap, rfl, hbg, (Array.getElem?_eq_some_iff.1 hg).1, hnc, hcm⟩
theorem OwnRecs.recAt {g cap : Nat} (h : OwnRecs t w B (.slice (some ⟨g, 0, none⟩) l.length cap) l) {k : Nat} (hk : k < l.length) :
    w.cell? ⟨g, k * 2, none⟩ = some (.string (rk l k).key) ∧ w.cell? ⟨g, k * 2 + 1, none⟩ = some (.string (rk l k).value) := by
  have c := fun j hj => (World.ownsRow.cellAt h (k * 2 + j) (by omega)).trans (flatC_at l k j hk hj)
  exact ⟨c 0 (by omega), c 1 (by omega)⟩
theorem rk_eq {l : List Rec} {k : Nat} (hk : k < l.length) : rk l k = l[k] := by simp [rk, List.getD_eq_getElem?_getD, List.getElem?_eq_getElem hk]
theorem OwnRecs.slice (h : OwnRecs t w B v l) (hl : l.length ≤ maxLen) (hz : ∀ r ∈ l, r.key.size ≤ maxLen ∧ r.value.size ≤ maxLen) : SliceC maxLen 2 (RecC maxLen) w [v] l := by
  rcases h.2 with ⟨rfl, h0⟩ | ⟨g, cap, cur, rfl, hbg, hg, hnc, hcm, hcs, htake⟩
  · obtain rfl := List.eq_nil_of_length_eq_zero h0
    exact ⟨none, 0, rfl, by simp, by simp, by simp, fun _ => rfl, fun h => absurd h (by simp)⟩
  · refine ⟨some ⟨g, 0, none⟩, cap, rfl, hnc, hcm, hl, (fun h => by cases h), fun _ => ⟨g, 0, rfl, fun i hi => ⟨(l[i]).cl, rfl, fun j hj => ?_, rfl, hz _ (List.getElem_mem hi)⟩⟩⟩
    rw [Nat.zero_add, World.ownsRow.cellAt h _ (by omega), flatC_at l i j hi hj, rk_eq hi]
def RetRecs (t : TypeId) (w : World) (p : List Rec × Int) (e : Ending) (w' : World) : Prop := ∃ v, e = .returned (.tuple #[v, .int .i64 p.2]) ∧ OwnRecs t w' w.heap.size v p.1 ∧ Below w.heap.size w w'
theorem src_rec {P : Program} (w : World) (tx e' e : TypeId) (hk : P.underlying tx = some (.slice e')) (x : Rec) : Src P 2 tx (.slice (some ⟨w.heap.size, 0, none⟩) 1 1) 1 ([x].flatMap Rec.cl) (w.alloc (.cells #[.string x.key, .string x.value] e)) := by
  refine Src.ofSlice _ hk ⟨w.heap.size, 0, none⟩ 1 1 _ rfl (fun j u hu => ?_) (fun u hu => ?_)
  · have hj : j < 2 := by
      rcases Nat.lt_or_ge j 2 with h | h
      · exact h
      · rw [List.getElem?_eq_none (by simpa [Rec.cl] using h)] at hu; cases hu
    have e : (⟨w.heap.size, 0, none⟩ : Addr).add j = ⟨w.heap.size, j, none⟩ := by unfold Addr.add; split <;> simp_all
    rw [e, World.cell?_alloc_new]
    simpa [Rec.cl] using hu
  · simp [Rec.cl] at hu
    rcases hu with rfl | rfl <;> rfl
theorem OwnRecs.app {t : TypeId} {w' : World} {B : Nat} {v' : Value} {l m : List Rec} (ho : w'.ownsRow B t 2 v' (l.length + m.length) (l.flatMap Rec.cl ++ m.flatMap Rec.cl)) : OwnRecs t w' B v' (l ++ m) := by
  unfold OwnRecs; rw [List.length_append, List.flatMap_append]; exact ho
theorem OwnRecs.form2 {t : TypeId} {w : World} {B : Nat} {v : Value} {l : List Rec} (h : OwnRecs t w B v l) : ∃ a cap, v = .slice a l.length cap ∧ cap ≤ maxLen ∧ (0 < l.length → ∃ g, a = some ⟨g, 0, none⟩ ∧ l.length ≤ cap ∧ g < w.heap.size) := by
  rcases h.form with ⟨rfl, rfl⟩ | ⟨g, cap, rfl, _, h1, h2, h3⟩
  · exact ⟨none, 0, rfl, by simp, fun h => absurd h (by simp)⟩
  · exact ⟨_, cap, rfl, h3, fun _ => ⟨g, rfl, h2, h1⟩⟩
end Go.Creel
namespace Go.Proofs.YtjmifcddkjcopaaDoor
open Go.Creel Go.RowKit
theorem info_record : (Tryd.prog.info? 23).map (fun i => (i.zero, i.size, i.bytes)) = some (some (.agg #[.string ⟨#[]⟩, .string ⟨#[]⟩]), 2, 32) := by kernel_rfl
end Go.Proofs.YtjmifcddkjcopaaDoor
namespace Go.Creel
open Go.RowKit
theorem recRes_is (s : ByteArray) : RecRes s (recOf s) := by
  have hex : ∃ x, RecRes s x := by
    by_cases h : ∃ k, RecHead s k
    · obtain ⟨k, hk⟩ := h
      by_cases h1 : s.size < valN s k
      · exact ⟨_, .inr ⟨k, hk, .inl ⟨h1, rfl⟩⟩⟩
      · by_cases h2 : valN s k < k + 2 ∨ byt s (valN s k - 1) ≠ 10
        · exact ⟨_, .inr ⟨k, hk, .inr (.inl ⟨by omega, h2, rfl⟩)⟩⟩
        · have h3 : k + 2 ≤ valN s k := by omega
          have h4 : byt s (valN s k - 1) = 10 := by omega
          by_cases h5 : ∀ j, k + 1 ≤ j → j < valN s k - 1 → byt s j ≠ 61
          · exact ⟨_, .inr ⟨k, hk, .inr (.inr (.inl ⟨by omega, h3, h4, h5, rfl⟩))⟩⟩
          · have h6 : ∃ j, k + 1 ≤ j ∧ j < valN s k - 1 ∧ byt s j = 61 := by
              refine Classical.byContradiction fun hn => h5 fun j a b c => hn ⟨j, a, b, c⟩
            have h7 : ∃ i, AtByte s 61 (k + 1) (valN s k - 1) i := by
              obtain ⟨j, a, b, c⟩ := h6
              induction j using Nat.strongRecOn with
              | ind j ih =>
                by_cases hq : ∃ q, k + 1 ≤ q ∧ q < j ∧ byt s q = 61
                · obtain ⟨q, q1, q2, q3⟩ := hq
                  exact ih q q2 q1 (by omega) q3
                · exact ⟨j, a, b, c, fun q q1 q2 q3 => hq ⟨q, q1, q2, q3⟩⟩
            obtain ⟨i, hi⟩ := h7
            exact ⟨_, .inr ⟨k, hk, .inr (.inr (.inr ⟨by omega, h3, h4, i, hi, rfl⟩))⟩⟩
    · exact ⟨_, .inl ⟨h, rfl⟩⟩
  obtain ⟨x, hx⟩ := hex
  rw [recOf_is hx]
  exact hx
theorem recOf_less {s : ByteArray} (h : (recOf s).2.2 = 0) : (recOf s).2.1.size < s.size ∧ (recOf s).1.key.size ≤ s.size ∧ (recOf s).1.value.size ≤ s.size := by
  have hr := recRes_is s
  generalize recOf s = x at *
  rcases hr with ⟨_, rfl⟩ | ⟨k, hk, ⟨_, rfl⟩ | ⟨_, _, rfl⟩ | ⟨_, _, _, _, rfl⟩ | ⟨h1, h2, h3, i, h4, rfl⟩⟩
  · cases h
  · cases h
  · cases h
  · cases h
  · by_cases hf : recFault ⟨s.extract (k + 1) i, s.extract (i + 1) (valN s k - 1)⟩ = 0
    · by_cases ht : recText ⟨s.extract (k + 1) i, s.extract (i + 1) (valN s k - 1)⟩ = s.extract 0 (valN s k)
      · rw [recAt_ok hf ht]
        refine ⟨?_, ?_, ?_⟩ <;> simp <;> omega
      · rw [recAt_odd hf ht] at h; cases h
    · rw [recAt_bad rfl hf] at h
      exact absurd h hf
noncomputable def paxGo : Nat → ByteArray → List Rec → List Rec × Int
  | 0, _, acc => (acc, 0)
  | n + 1, s, acc => if s.size = 0 then (acc, 0) else if (recOf s).2.2 = 0 then paxGo n (recOf s).2.1 (acc ++ [(recOf s).1]) else ([], (recOf s).2.2)
theorem paxGo_done {n : Nat} {s : ByteArray} {acc : List Rec} (h : s.size = 0) : paxGo n s acc = (acc, 0) := by
  cases n with
  | zero => rfl
  | succ n => simp only [paxGo]; rw [if_pos h]
theorem paxGo_bad {n : Nat} {s : ByteArray} {acc : List Rec} (h : s.size ≠ 0) (hn : s.size ≤ n) (he : (recOf s).2.2 ≠ 0) : paxGo n s acc = ([], (recOf s).2.2) := by
  obtain ⟨m, rfl⟩ : ∃ m, n = m + 1 := ⟨n - 1, by omega⟩
  simp only [paxGo]; rw [if_neg h, if_neg he]
theorem paxGo_step {n : Nat} {s : ByteArray} {acc : List Rec} (h : s.size ≠ 0) (hn : s.size ≤ n) (he : (recOf s).2.2 = 0) : paxGo n s acc = paxGo (n - 1) (recOf s).2.1 (acc ++ [(recOf s).1]) := by
  obtain ⟨m, rfl⟩ : ∃ m, n = m + 1 := ⟨n - 1, by omega⟩
  simp only [paxGo]; rw [if_neg h, if_pos he]; rfl
noncomputable def paxOf (s : ByteArray) : List Rec × Int :=
  if (paxGo s.size s []).2 ≠ 0 then ([], (paxGo s.size s []).2) else if paxFault (paxGo s.size s []).1 ≠ 0 then ([], paxFault (paxGo s.size s []).1) else ((paxGo s.size s []).1, 0)
def lastP (l : List Rec) (k : Nat) : ByteArray := if k = 0 then ⟨#[]⟩ else (rk l (k - 1)).key
end Go.Creel
namespace Go.Proofs.YtjmifcddkjcopaaDoor
open Go.Creel Go.RowKit
set_option maxRecDepth 100000 in
set_option maxHeartbeats 2000000 in
theorem PaxL_any (v : Value) (l : List Rec) (w : World) (h : SliceC maxLen 2 (RecC maxLen) w [v] l) :
    Calls Tryd.prog 18 #[v] w fun e w' => e = .returned (.int .i64 (paxFault l)) ∧ Below w.heap.size w w' := by
  rcases recs_cases h with ⟨a, cap, rfl, rfl⟩ | ⟨b, off, cap, rfl, hpos, hle, hm, _, hc⟩
  · have HF := Lib.hid (show paxFault [] = 0 from rfl)
    go_enter Tryd.func18, Tryd.ntmps18
    go_wp2
    go_loop [3, 4, 5, 11] (fun _ _ _ i => i = .int .i64 0) (fun _ _ _ _ => 0)
    case atStart => rfl
    case round =>
      obtain rfl := hrel
      go_wp2
      go_ret
      rw [HF.out]
      exact ⟨rfl, Below.refl _ _⟩
  · have hm' := hm
    unfold maxLen at hm
    by_cases h12 : 12 < l.length
    · have HF := Lib.hid (paxFault_many h12)
      clear hc h
      go_enter Tryd.func18, Tryd.ntmps18
      go_wp2
      go_ret
      rw [HF.out]
      exact ⟨rfl, Below.refl _ _⟩
    · have hbl : b < w.heap.size := World.block_lt_of_cell? w _ (hc 0 hpos).1.1
      have Hc := Lib.hid hc
      have HFA := Lib.hid (fun k e h1 h2 h3 h4 => paxFault_at (l := l) (k := k) (e := e) (by omega) h1 h2 h3 h4)
      have HFO := Lib.hid (paxFault_ok (l := l) (by omega))
      clear hc h
      go_enter Tryd.func18, Tryd.ntmps18
      go_wp2
      go_loopw [3, 4, 5, 11] (fun _ _ _ i wr => ∃ k : Nat, k ≤ l.length ∧ i = .int .i64 k ∧ Hid (∀ j, j < k → stepP l j = 0) ∧ Hid (Below w.heap.size w wr)) (fun _ _ _ i _ => l.length - (intOf i).toNat)
      case atStart => exact ⟨0, by omega, rfl, Lib.hid (fun j hj => absurd hj (by omega)), Lib.hid (Below.refl _ _)⟩
      case round =>
        obtain ⟨k, hk, rfl, HZ, HB⟩ := hrel
        by_cases hlt : k < l.length
        · obtain ⟨⟨hc0, hc1⟩, hks, hvs⟩ := Hc.out k hlt
          rw [← HB.out.cell (p := ⟨b, off + k * 2, none⟩) hbl] at hc0
          rw [← HB.out.cell (p := ⟨b, off + k * 2 + 1, none⟩) hbl] at hc1
          have hprev : 0 < k → wr.cell? ⟨b, off + (k - 1) * 2, none⟩ = some (.string (rk l (k - 1)).key) := fun h0 => by
            rw [HB.out.cell (p := ⟨b, off + (k - 1) * 2, none⟩) hbl]; exact (Hc.out (k - 1) (by omega)).1.1
          have hbl2 : b < wr.heap.size := Nat.lt_of_lt_of_le hbl HB.out.size
          have HSR := Lib.hid (fun e => stepP_rec (l := l) (k := k) (e := e))
          have HSL := Lib.hid (stepP_le (l := l) (k := k))
          have HSO := Lib.hid (stepP_ok (l := l) (k := k))
          have HL := Lib.hid (fun W => RecL_any (rk l k) W hks hvs)
          generalize hr : rk l k = r at *
          have HR := Lib.hid hr
          clear hr
          generalize recFault r = f at *
          obtain ⟨key, value⟩ := r
          simp only [Rec.cells] at HL
          simp only at hc0 hc1
          have HPV := Lib.hid hprev
          clear hprev hks hvs
          go_wp2_with fail
          refine (HL.out _).mono ?_
          rintro e w1 ⟨rfl, hb⟩
          have HBX := Lib.hid (HB.out.trans ((((Below.refl _ _).alloc (Nat.le_refl _) _).trans (hb.mono (by simp))).mono HB.out.size))
          have hcb := (bcell hb).1
          have cb0 : w1.cell? ⟨wr.heap.size, 0, none⟩ = some (.string key) := by rw [hcb _ _ (by simp)]; simp
          have hcp : ∀ o, w1.cell? ⟨b, o, none⟩ = wr.cell? ⟨b, o, none⟩ := fun o => by rw [hcb _ _ (by simp; omega)]; exact (((Below.refl _ _).alloc (Nat.le_refl _) _)).cell (p := ⟨b, o, none⟩) hbl2
          have HCP := Lib.hid hcp
          clear hb hcb hc0 hc1 hcp HL
          by_cases hf : f = 0
          · subst hf
            by_cases h0 : 0 < k
            · obtain ⟨j, rfl⟩ : ∃ j, k = j + 1 := ⟨k - 1, by omega⟩
              have hp := HPV.out h0
              rw [← HCP.out] at hp
              simp only [Nat.add_sub_cancel] at hp HSL HSO
              generalize (rk l j).key = pre at *
              have hg : decide ((0 : Int) < ((j + 1 : Nat) : Int)) = true := by simp
              have hw1 : IntKind.i64.wrap ((j : Int) + 1 - 1) = j := by rw [IntKind.wrap_i64]; omega
              clear HPV
              cases h1 : Op.bytesLess key.toList pre.toList with
              | true =>
                have HQ := Lib.hid (HFA.out (j + 1) 6 hlt HZ.out (HSL.out trivial h0 (leS_a h1)) (by decide))
                clear HZ HFA HFO HSR HSL HSO
                go_wp2
                go_quiet (fail)
                go_wp2
                go_ret
                rw [HQ.out]
                exact ⟨rfl, below_drewN HBX.out _⟩
              | false =>
                cases h2 : (key.toList == pre.toList) with
                | true =>
                  have HQ := Lib.hid (HFA.out (j + 1) 6 hlt HZ.out (HSL.out trivial h0 (leS_b h2)) (by decide))
                  clear HZ HFA HFO HSR HSL HSO
                  go_wp2
                  go_quiet (fail)
                  go_wp2
                  go_ret
                  rw [HQ.out]
                  exact ⟨rfl, below_drewN HBX.out _⟩
                | false =>
                  have HQ := Lib.hid (show ∀ i, i < j + 1 + 1 → stepP l i = 0 from fun i hi => by
                    by_cases e : i = j + 1
                    · rw [e]; exact HSO.out trivial (fun _ => leS_c h1 h2)
                    · exact HZ.out i (by omega))
                  clear HZ HFA HFO HSR HSL HSO
                  go_wp2
                  go_quiet (fail)
                  go_wp2
                  go_roundw
                  · exact ⟨j + 1 + 1, by omega, by simp, HQ, Lib.hid (below_drewN HBX.out _)⟩
                  · simp only [intOf]; omega
            · obtain rfl : k = 0 := by omega
              have HQ := Lib.hid (show ∀ i, i < 0 + 1 → stepP l i = 0 from fun i hi => by
                obtain rfl : i = 0 := by omega
                exact HSO.out rfl (fun h => absurd h (by omega)))
              clear HZ HFA HFO HSR HSL HSO HPV
              go_wp2
              go_quiet (fail)
              go_wp2
              go_roundw
              · exact ⟨0 + 1, by omega, by simp, HQ, Lib.hid (below_drewN HBX.out _)⟩
              · simp only [intOf]; omega
          · have HQ := Lib.hid (HFA.out k f hlt HZ.out (HSR.out f rfl hf) hf)
            clear HZ HFA HFO HSR HSL HSO HPV
            go_wp2
            go_ret
            rw [HQ.out]
            exact ⟨rfl, HBX.out⟩
        · obtain rfl : k = l.length := by omega
          have HQ := Lib.hid (HFO.out HZ.out)
          clear HZ HFA HFO
          go_wp2
          go_ret
          rw [HQ.out]
          exact ⟨rfl, HB.out⟩
set_option maxRecDepth 100000 in
set_option maxHeartbeats 2000000 in
theorem PaxR_any (v : Value) (l : List Rec) (w : World) (h : SliceC maxLen 2 (RecC maxLen) w [v] l) :
    Calls Tryd.prog 19 #[v] w fun e w' => e = .returned (.int .i64 (paxFault l)) ∧ Below w.heap.size w w' := by
  rcases recs_cases h with ⟨a, cap, rfl, rfl⟩ | ⟨b, off, cap, rfl, hpos, hle, hm, _, hc⟩
  · have HF := Lib.hid (show paxFault [] = 0 from rfl)
    go_enter Tryd.func19, Tryd.ntmps19
    go_wp2
    go_loop [3, 5, 6, 12] (fun v3 _ _ i => v3 = .string ⟨#[]⟩ ∧ i = .int .i64 0) (fun _ _ _ _ => 0)
    case atStart => exact ⟨rfl, rfl⟩
    case round =>
      obtain ⟨rfl, rfl⟩ := hrel
      go_wp2
      go_ret
      rw [HF.out]
      exact ⟨rfl, Below.refl _ _⟩
  · have hm' := hm
    unfold maxLen at hm
    by_cases h12 : 12 < l.length
    · have HF := Lib.hid (paxFault_many h12)
      clear hc h
      go_enter Tryd.func19, Tryd.ntmps19
      go_wp2
      go_ret
      rw [HF.out]
      exact ⟨rfl, Below.refl _ _⟩
    · have hbl : b < w.heap.size := World.block_lt_of_cell? w _ (hc 0 hpos).1.1
      have Hc := Lib.hid hc
      have HFA := Lib.hid (fun k e h1 h2 h3 h4 => paxFault_at (l := l) (k := k) (e := e) (by omega) h1 h2 h3 h4)
      have HFO := Lib.hid (paxFault_ok (l := l) (by omega))
      clear hc h
      go_enter Tryd.func19, Tryd.ntmps19
      go_wp2
      go_loopw [3, 5, 6, 12] (fun v3 _ _ i wr => ∃ (k : Nat) (last : ByteArray), k ≤ l.length ∧ i = .int .i64 k ∧ v3 = .string last ∧ Hid (last = lastP l k) ∧ Hid (∀ j, j < k → stepP l j = 0) ∧ Hid (Below w.heap.size w wr)) (fun _ _ _ i _ => l.length - (intOf i).toNat)
      case atStart => exact ⟨0, ⟨#[]⟩, by omega, rfl, rfl, Lib.hid rfl, Lib.hid (fun j hj => absurd hj (by omega)), Lib.hid (Below.refl _ _)⟩
      case round =>
        obtain ⟨k, last, hk, rfl, rfl, HLP, HZ, HB⟩ := hrel
        by_cases hlt : k < l.length
        · obtain ⟨⟨hc0, hc1⟩, hks, hvs⟩ := Hc.out k hlt
          rw [← HB.out.cell (p := ⟨b, off + k * 2, none⟩) hbl] at hc0
          rw [← HB.out.cell (p := ⟨b, off + k * 2 + 1, none⟩) hbl] at hc1
          have HSR := Lib.hid (fun e => stepP_rec (l := l) (k := k) (e := e))
          have HSL := Lib.hid (stepP_le (l := l) (k := k))
          have HSO := Lib.hid (stepP_ok (l := l) (k := k))
          have HNX := Lib.hid (show (rk l k).key = lastP l (k + 1) from rfl)
          have HOK := Lib.hid (fun h => (recFault_ok (r := rk l k) h).1)
          have HL := Lib.hid (fun W => RecR_any (rk l k) W hks hvs)
          generalize hr : rk l k = r at *
          have HR := Lib.hid hr
          clear hr
          generalize recFault r = f at *
          obtain ⟨key, value⟩ := r
          simp only [Rec.cells] at HL
          simp only at hc0 hc1
          clear hks hvs
          go_wp2_with fail
          refine (HL.out _).mono ?_
          rintro e w1 ⟨rfl, hb⟩
          have HBX := Lib.hid (HB.out.trans ((((Below.refl _ _).alloc (Nat.le_refl _) _).trans (hb.mono (by simp))).mono HB.out.size))
          have hcb := (bcell hb).1
          have cb0 : w1.cell? ⟨wr.heap.size, 0, none⟩ = some (.string key) := by rw [hcb _ _ (by simp)]; simp
          clear hb hcb hc0 hc1 HL
          by_cases hf : f = 0
          · subst hf
            by_cases h0 : 0 < k
            · have HLQ := Lib.hid (show last = (rk l (k - 1)).key by rw [HLP.out]; unfold lastP; rw [if_neg (by omega)])
              have HY := Lib.hid (fun h => HFA.out k 6 hlt HZ.out (HSL.out rfl h0 (by rw [← HLQ.out]; exact h)) (by decide))
              have HN := Lib.hid (fun h => show ∀ i, i < k + 1 → stepP l i = 0 from fun i hi => by
                by_cases e : i = k
                · rw [e]; exact HSO.out rfl (fun _ => by rw [← HLQ.out]; exact h)
                · exact HZ.out i (by omega))
              clear HZ HFA HFO HSR HSL HSO HLP HOK
              cases h1 : Op.bytesLess key.toList last.toList with
              | true =>
                have HQ := Lib.hid (HY.out (leS_a h1))
                go_wp2
                go_ret
                rw [HQ.out]
                exact ⟨rfl, HBX.out⟩
              | false =>
                cases h2 : (key.toList == last.toList) with
                | true =>
                  have HQ := Lib.hid (HY.out (leS_b h2))
                  go_wp2
                  go_ret
                  rw [HQ.out]
                  exact ⟨rfl, HBX.out⟩
                | false =>
                  have HQ := Lib.hid (HN.out (leS_c h1 h2))
                  go_wp2
                  go_roundw
                  · exact ⟨k + 1, key, by omega, by simp, rfl, HNX, HQ, HBX⟩
                  · simp only [intOf]; omega
            · obtain rfl : k = 0 := by omega
              have HQ := Lib.hid (show ∀ i, i < 0 + 1 → stepP l i = 0 from fun i hi => by
                obtain rfl : i = 0 := by omega
                exact HSO.out rfl (fun h => absurd h (by omega)))
              obtain rfl : last = ⟨#[]⟩ := HLP.out
              obtain ⟨h1, h2⟩ := leS_empty (HOK.out rfl)
              clear HZ HFA HFO HSR HSL HSO HLP HOK
              go_wp2
              go_roundw
              case rel => exact ⟨1, key, by omega, rfl, rfl, HNX, HQ, HBX⟩
              case measure => simp [intOf]; omega
          · have HQ := Lib.hid (HFA.out k f hlt HZ.out (HSR.out f rfl hf) hf)
            clear HZ HFA HFO HSR HSL HSO HLP HOK
            go_wp2
            go_ret
            rw [HQ.out]
            exact ⟨rfl, HBX.out⟩
        · obtain rfl : k = l.length := by omega
          have HQ := Lib.hid (HFO.out HZ.out)
          clear HZ HFA HFO HLP
          go_wp2
          go_ret
          rw [HQ.out]
          exact ⟨rfl, HB.out⟩
end Go.Proofs.YtjmifcddkjcopaaDoor
namespace Go.Creel
open Go.RowKit
def szOf : Value → Nat
  | .string s => s.size
  | _ => 0
end Go.Creel
namespace Go.Proofs.YtjmifcddkjcopaaDoor
open Go.Creel Go.RowKit
set_option maxRecDepth 100000 in
set_option maxHeartbeats 4000000 in
theorem PaxRead_any (s : ByteArray) (w : World) (hs : s.size ≤ 1048576) (hT : Pow10 w) :
    Calls Tryd.prog 7 #[.string s] w (RetRecs 23 w (paxOf s)) := by
  obtain ⟨i0, hi, hz0, hz1, hz2⟩ := info_parts info_record
  have HI := Lib.hid (And.intro hi (And.intro hz0 (And.intro hz1 hz2)))
  have HT := Lib.hid hT
  have HSM := Lib.hid hs
  clear hi hz0 hz1 hz2 hT hs
  go_enter Tryd.func7, Tryd.ntmps7
  go_wp2
  go_loopw [0, 4, 5, 6, 7] (fun v0 v4 _ _ _ wr => ∃ (n : Nat) (r : ByteArray) (vv : Value) (acc : List Rec), v0 = .string r ∧ vv = v4 ∧ r.size ≤ n ∧ acc.length + r.size ≤ s.size ∧ Hid (paxGo n r acc = paxGo s.size s []) ∧ Hid (OwnRecs 23 wr w.heap.size vv acc) ∧
    Hid (∀ x ∈ acc, x.key.size ≤ maxLen ∧ x.value.size ≤ maxLen) ∧ Hid (Below w.heap.size w wr)) (fun v0 _ _ _ _ _ => szOf v0)
  case atStart => exact ⟨s.size, s, _, [], rfl, rfl, by omega, by simp, Lib.hid rfl, Lib.hid (OwnRecs.nil _ _ _), Lib.hid (by simp), Lib.hid (Below.refl _ _)⟩
  case round =>
    obtain ⟨n, r, vv, acc, rfl, rfl, hn, hlen, HG, HO, HS, HB⟩ := hrel
    by_cases h0 : r.size = 0
    · have he := empty_t h0
      have HGD := Lib.hid (HG.out.symm.trans (paxGo_done h0))
      have hsl := HO.out.slice (by have := HSM.out; unfold maxLen; omega) HS.out
      have HCK := Lib.hid (PaxL_any vv acc wr hsl)
      have HP := Lib.hid (show paxOf s = if paxFault acc ≠ 0 then ([], paxFault acc) else (acc, 0) by unfold paxOf; rw [HGD.out]; rfl)
      clear hsl
      generalize paxFault acc = f at *
      go_wp2_with fail
      refine HCK.out.mono ?_
      rintro e w2 ⟨rfl, hb⟩
      have HO2 := Lib.hid (HO.out.below hb)
      have HW2 := Lib.hid (HB.out.trans (hb.mono HB.out.size))
      clear hb
      by_cases hf : f = 0
      · subst hf
        go_wp2
        go_ret2
        rw [HP.out, if_neg (by simp)]
        exact ⟨_, rfl, HO2.out, HW2.out⟩
      · have hne : (f != 0) = true := by rw [bne_iff_ne]; exact hf
        go_wp2
        go_ret2
        rw [HP.out, if_pos hf]
        exact ⟨_, rfl, OwnRecs.nil _ _ _, HW2.out⟩
    · have he := empty_f h0
      have HRD := Lib.hid (fun w h => RecRead_any r w (by have := HSM.out; unfold maxLen; omega) h)
      have HBAD := Lib.hid (fun h => paxGo_bad (acc := acc) h0 hn h)
      have HSTP := Lib.hid (fun h => paxGo_step (acc := acc) h0 hn h)
      have HLS := Lib.hid (fun h => recOf_less (s := r) h)
      generalize recOf r = p at *
      obtain ⟨⟨key, value⟩, rest, e0⟩ := p
      simp only [Rec.cells] at HRD
      go_wp2_with fail
      refine (HRD.out _ (HT.out.below HB.out)).mono ?_
      rintro e w2 ⟨rfl, hb⟩
      have HW2 := Lib.hid (HB.out.trans (hb.mono HB.out.size))
      have HO2 := Lib.hid (HO.out.below hb)
      clear hb
      by_cases hz : e0 = 0
      · subst hz
        obtain ⟨l1, l2, l3⟩ := HLS.out rfl
        have HST := Lib.hid (HSTP.out rfl)
        have HBA := Lib.hid (Below.refl w2.heap.size w2 |>.alloc (Nat.le_refl _) (.cells #[.string key, .string value] 23))
        generalize hW3 : w2.alloc (.cells #[.string key, .string value] 23) = w3 at *
        have HBB := Lib.hid (Below.refl w3.heap.size w3 |>.alloc (Nat.le_refl _) (.cells #[.string key, .string value] 23))
        have HO3 := Lib.hid ((HO2.out.below HBA.out).below HBB.out)
        have HW4 := Lib.hid ((HW2.out.trans (HBA.out.mono HW2.out.size)).trans (HBB.out.mono (Nat.le_trans HW2.out.size HBA.out.size)))
        have hsm := HSM.out
        have hc0 : w3.cell? ⟨w2.heap.size, 0, none⟩ = some (.string key) := by rw [← hW3]; simp
        have hc1 : w3.cell? ⟨w2.heap.size, 1, none⟩ = some (.string value) := by rw [← hW3]; simp
        go_wp2_with (at_builtin; refine wpList_app _ rfl (.tmp 20) (.tmp 22) 28 28 rfl _ _ rfl rfl (fun ty => app_src _ 28 28 ty w.heap.size 23 i0 _ 2 32 Tryd.underlying28 HI.out.1 HI.out.2.1 HI.out.2.2.1 HI.out.2.2.2 rfl (by decide) _ _ acc.length 1 _ _ HO3.out (src_rec w3 _ _ _ Tryd.underlying28 ⟨key, value⟩) (by unfold maxLen; omega) (by omega) HW4.out.size) ?_; intro v3 w5 ho2 hg2 hv2; have HZ := Lib.hid (And.intro ho2 (And.intro hg2 hv2.2)); clear ho2 hg2 hv2)
        refine ⟨⟨n - 1, rest, v3, acc ++ [⟨key, value⟩], rfl, rfl, by omega, by simp; omega, Lib.hid (HST.out.symm.trans HG.out), Lib.hid (OwnRecs.app (m := [⟨key, value⟩]) HZ.out.1), Lib.hid ?_, Lib.hid (below_app HW4.out HZ.out.2.1 HO3.out HW4.out.size)⟩, by simp only [szOf]; exact l1⟩
        intro x hx
        rcases List.mem_append.1 hx with a | a
        · exact HS.out x a
        · rw [List.mem_singleton.1 a]
          constructor <;> (simp only; unfold maxLen; omega)
      · have hne : (e0 != 0) = true := by rw [bne_iff_ne]; exact hz
        have HF := Lib.hid (show paxOf s = ([], e0) by unfold paxOf; rw [← HG.out, HBAD.out hz, if_pos hz])
        have HA := Lib.hid (HW2.out.alloc HW2.out.size (.cells #[.string key, .string value] 23))
        go_wp2
        go_ret2
        rw [HF.out]
        exact ⟨_, rfl, OwnRecs.nil _ _ _, HA.out⟩
set_option maxRecDepth 100000 in
set_option maxHeartbeats 4000000 in
theorem PaxOf_any (s : ByteArray) (w : World) (hs : s.size ≤ 1048576) (hT : Pow10 w) :
    Calls Tryd.prog 8 #[.string s] w (RetRecs 23 w (paxOf s)) := by
  obtain ⟨i0, hi, hz0, hz1, hz2⟩ := info_parts info_record
  have HI := Lib.hid (And.intro hi (And.intro hz0 (And.intro hz1 hz2)))
  have HT := Lib.hid hT
  have HSM := Lib.hid hs
  clear hi hz0 hz1 hz2 hT hs
  go_enter Tryd.func8, Tryd.ntmps8
  go_wp2
  go_loopw [0, 4, 5, 6, 7] (fun v0 v4 _ _ _ wr => ∃ (n : Nat) (r : ByteArray) (vv : Value) (acc : List Rec), v0 = .string r ∧ vv = v4 ∧ r.size ≤ n ∧ acc.length + r.size ≤ s.size ∧ Hid (paxGo n r acc = paxGo s.size s []) ∧ Hid (OwnRecs 23 wr w.heap.size vv acc) ∧
    Hid (∀ x ∈ acc, x.key.size ≤ maxLen ∧ x.value.size ≤ maxLen) ∧ Hid (Below w.heap.size w wr)) (fun v0 _ _ _ _ _ => szOf v0)
  case atStart => exact ⟨s.size, s, _, [], rfl, rfl, by omega, by simp, Lib.hid rfl, Lib.hid (OwnRecs.nil _ _ _), Lib.hid (by simp), Lib.hid (Below.refl _ _)⟩
  case round =>
    obtain ⟨n, r, vv, acc, rfl, rfl, hn, hlen, HG, HO, HS, HB⟩ := hrel
    by_cases h0 : r.size = 0
    · have he := empty_t h0
      have HGD := Lib.hid (HG.out.symm.trans (paxGo_done h0))
      have hsl := HO.out.slice (by have := HSM.out; unfold maxLen; omega) HS.out
      have HCK := Lib.hid (PaxR_any vv acc wr hsl)
      have HP := Lib.hid (show paxOf s = if paxFault acc ≠ 0 then ([], paxFault acc) else (acc, 0) by unfold paxOf; rw [HGD.out]; rfl)
      clear hsl
      generalize paxFault acc = f at *
      go_wp2_with fail
      refine HCK.out.mono ?_
      rintro e w2 ⟨rfl, hb⟩
      have HO2 := Lib.hid (HO.out.below hb)
      have HW2 := Lib.hid (HB.out.trans (hb.mono HB.out.size))
      clear hb
      by_cases hf : f = 0
      · subst hf
        go_wp2
        go_ret2
        rw [HP.out, if_neg (by simp)]
        exact ⟨_, rfl, HO2.out, HW2.out⟩
      · have hne : (f != 0) = true := by rw [bne_iff_ne]; exact hf
        go_wp2
        go_ret2
        rw [HP.out, if_pos hf]
        exact ⟨_, rfl, OwnRecs.nil _ _ _, HW2.out⟩
    · have he := empty_f h0
      have HRD := Lib.hid (fun w h => RecordOf_any r w (by have := HSM.out; unfold maxLen; omega) h)
      have HBAD := Lib.hid (fun h => paxGo_bad (acc := acc) h0 hn h)
      have HSTP := Lib.hid (fun h => paxGo_step (acc := acc) h0 hn h)
      have HLS := Lib.hid (fun h => recOf_less (s := r) h)
      generalize recOf r = p at *
      obtain ⟨⟨key, value⟩, rest, e0⟩ := p
      simp only [Rec.cells] at HRD
      go_wp2_with fail
      refine (HRD.out _ (HT.out.below HB.out)).mono ?_
      rintro e w2 ⟨rfl, hb⟩
      have HW2 := Lib.hid (HB.out.trans (hb.mono HB.out.size))
      have HO2 := Lib.hid (HO.out.below hb)
      clear hb
      by_cases hz : e0 = 0
      · subst hz
        obtain ⟨l1, l2, l3⟩ := HLS.out rfl
        have HST := Lib.hid (HSTP.out rfl)
        have HBA := Lib.hid (Below.refl w2.heap.size w2 |>.alloc (Nat.le_refl _) (.cells #[.string key, .string value] 23))
        generalize hW3 : w2.alloc (.cells #[.string key, .string value] 23) = w3 at *
        have HBB := Lib.hid (Below.refl w3.heap.size w3 |>.alloc (Nat.le_refl _) (.cells #[.string key, .string value] 23))
        have HO3 := Lib.hid ((HO2.out.below HBA.out).below HBB.out)
        have HW4 := Lib.hid ((HW2.out.trans (HBA.out.mono HW2.out.size)).trans (HBB.out.mono (Nat.le_trans HW2.out.size HBA.out.size)))
        have hsm := HSM.out
        have hc0 : w3.cell? ⟨w2.heap.size, 0, none⟩ = some (.string key) := by rw [← hW3]; simp
        have hc1 : w3.cell? ⟨w2.heap.size, 1, none⟩ = some (.string value) := by rw [← hW3]; simp
        go_wp2_with (at_builtin; refine wpList_app _ rfl (.tmp 21) (.tmp 23) 28 28 rfl _ _ rfl rfl (fun ty => app_src _ 28 28 ty w.heap.size 23 i0 _ 2 32 Tryd.underlying28 HI.out.1 HI.out.2.1 HI.out.2.2.1 HI.out.2.2.2 rfl (by decide) _ _ acc.length 1 _ _ HO3.out (src_rec w3 _ _ _ Tryd.underlying28 ⟨key, value⟩) (by unfold maxLen; omega) (by omega) HW4.out.size) ?_; intro v3 w5 ho2 hg2 hv2; have HZ := Lib.hid (And.intro ho2 (And.intro hg2 hv2.2)); clear ho2 hg2 hv2)
        refine ⟨⟨n - 1, rest, v3, acc ++ [⟨key, value⟩], rfl, rfl, by omega, by simp; omega, Lib.hid (HST.out.symm.trans HG.out), Lib.hid (OwnRecs.app (m := [⟨key, value⟩]) HZ.out.1), Lib.hid ?_, Lib.hid (below_app HW4.out HZ.out.2.1 HO3.out HW4.out.size)⟩, by simp only [szOf]; exact l1⟩
        intro x hx
        rcases List.mem_append.1 hx with a | a
        · exact HS.out x a
        · rw [List.mem_singleton.1 a]
          constructor <;> (simp only; unfold maxLen; omega)
      · have hne : (e0 != 0) = true := by rw [bne_iff_ne]; exact hz
        have HF := Lib.hid (show paxOf s = ([], e0) by unfold paxOf; rw [← HG.out, HBAD.out hz, if_pos hz])
        have HA := Lib.hid (HW2.out.alloc HW2.out.size (.cells #[.string key, .string value] 23))
        go_wp2
        go_ret2
        rw [HF.out]
        exact ⟨_, rfl, OwnRecs.nil _ _ _, HA.out⟩
open Go.Creel Go.RowKit
set_option maxRecDepth 100000 in
set_option maxHeartbeats 2000000 in
theorem EqRecs_any (v1 v2 : Value) (l : List Rec) (B1 B2 : Nat) (w : World) (h1 : OwnRecs 23 w B1 v1 l) (h2 : OwnRecs 23 w B2 v2 l) :
    Calls Tryd.prog 20 #[v1, v2] w fun e w' => e = .returned (.bool true) ∧ Below w.heap.size w w' := by
  obtain ⟨a1, p1, rfl, q1, f1⟩ := h1.form2
  obtain ⟨a2, p2, rfl, q2, f2⟩ := h2.form2
  unfold maxLen at q1 q2
  by_cases hl : 0 < l.length
  · obtain ⟨g1, rfl, m1, _⟩ := f1 hl
    obtain ⟨g2, rfl, m2, _⟩ := f2 hl
    have H1 := Lib.hid (fun k (hk : k < l.length) => h1.recAt hk)
    have H2 := Lib.hid (fun k (hk : k < l.length) => h2.recAt hk)
    clear f1 f2 h1 h2
    go_enter Tryd.func20, Tryd.ntmps20
    go_wp2
    go_loopw [5, 13] (fun _ i wr => ∃ (k n : Nat), k ≤ l.length ∧ i = .int .i64 k ∧ wr = w.drewN n) (fun _ i _ => l.length - (intOf i).toNat)
    case atStart => exact ⟨0, 0, by omega, rfl, rfl⟩
    case round =>
      obtain ⟨k, n, hk, rfl, rfl⟩ := hrel
      by_cases hlt : k < l.length
      · obtain ⟨c0, c1⟩ := H1.out k hlt
        obtain ⟨d0, d1⟩ := H2.out k hlt
        generalize rk l k = x at *
        go_wp2
        go_quiet (fail)
        go_wp2
        go_roundw
        case rel => exact ⟨k + 1, _, by omega, by simp, rfl⟩
        case measure => simp only [intOf]; omega
      · have hk' : k = l.length := by omega
        subst hk'
        go_wp2
        go_ret
        exact ⟨rfl, below_drewN (Below.refl _ _) n⟩
  · obtain rfl : l = [] := List.eq_nil_of_length_eq_zero (by omega)
    clear f1 f2 h1 h2
    go_enter Tryd.func20, Tryd.ntmps20
    go_wp2
    go_loop [5, 13] (fun _ i => i = .int .i64 0) (fun _ _ => 0)
    case atStart => rfl
    case round =>
      obtain rfl := hrel
      go_wp2
      go_ret
      exact ⟨rfl, Below.refl _ _⟩
set_option maxRecDepth 100000 in
theorem SameRecs_any (v1 v2 : Value) (l : List Rec) (B1 B2 : Nat) (w : World) (h1 : OwnRecs 23 w B1 v1 l) (h2 : OwnRecs 23 w B2 v2 l) :
    Calls Tryd.prog 9 #[v1, v2] w fun e w' => e = .returned (.bool true) ∧ Below w.heap.size w w' := by
  have HE := Lib.hid (EqRecs_any v1 v2 l B1 B2 w h1 h2)
  clear h1 h2
  go_enter Tryd.func9, Tryd.ntmps9
  go_wp2_with fail
  refine HE.out.mono ?_
  rintro e w2 ⟨rfl, hb⟩
  have HB := Lib.hid hb
  clear hb
  go_wp2
  go_ret
  exact ⟨rfl, HB.out⟩
open Go.Creel
def bulkS (H : Type) (d : DataW H) : Prop := Rows.uptoBulk d ≤ 1048576
theorem bulk_one {H : Type} (d : DataW H) : 1 ≤ Rows.uptoBulk d := by
  cases d with
  | lit l => cases l <;> simp [Rows.uptoBulk]
  | nil => simp [Rows.uptoBulk]
  | ptr d => simp [Rows.uptoBulk]
  | slice elems spare => simp [Rows.uptoBulk]
  | agg parts => simp [Rows.uptoBulk]
  | iface t d => simp [Rows.uptoBulk]
  | map entries => simp [Rows.uptoBulk]
  | held h => simp [Rows.uptoBulk]
theorem bulk_part {H : Type} {d : DataW H} {l : List (DataW H)} (h : d ∈ l) : Rows.uptoBulk d ≤ Rows.uptoBulkAll l := by
  induction l with
  | nil => cases h
  | cons x r ih =>
    simp only [Rows.uptoBulkAll]
    cases List.mem_cons.1 h with
    | inl e => subst e; omega
    | inr e => have := ih e; omega
theorem bulk_length {H : Type} (l : List (DataW H)) : l.length ≤ Rows.uptoBulkAll l := by
  induction l with
  | nil => simp [Rows.uptoBulkAll]
  | cons x r ih => have := bulk_one x; simp only [Rows.uptoBulkAll, List.length_cons]; omega
theorem bulk_bd (H : Type) : Bd H (bulkS H) 1048576 where
  str l h _ := by
    simp only [bulkS, Rows.uptoBulk] at h
    omega
  slc el sp h _ := by
    simp only [bulkS, Rows.uptoBulk] at h
    have := bulk_length el
    exact ⟨by omega, fun d hd => by have := bulk_part hd; unfold bulkS; omega⟩
  agg ps h d hd := by
    simp only [bulkS, Rows.uptoBulk] at h
    have := bulk_part hd
    unfold bulkS; omega
theorem bulk_mem {H : Type} {ds : List (DataW H)} {d : DataW H} (hk : Rows.uptoSmall H ds = true) (h : d ∈ ds) : bulkS H d := by
  have h1 : Rows.uptoBulkAll ds ≤ 1048576 := of_decide_eq_true hk
  have := bulk_part h
  unfold bulkS; omega
end Go.Proofs.YtjmifcddkjcopaaDoor
