/-
  Texts: Append, RecsOwn, RecSt, Text.
-/
import Derived.Test.YtaffgndickdbiaaGreatDoorU01
import Derived.Deep.AppendSrc
import Derived.Lib.AppendZeros
import Derived.Laws.OwnMore
set_option linter.unusedVariables false
set_option linter.unusedSimpArgs false
set_option linter.unusedSectionVars false
namespace Go.Creel
open Go.RowKit
def AppTo (P : Program) (w : World) (t tx ty : TypeId) (v x : Value) (base e size n m : Nat) (xs news : List Value) : Prop :=
  ∃ v' w', (Builtin.append_ #[t, tx] ty #[v, x]).run P w = .ok v' w' ∧ w'.ownsRow base e size v' (n + m) (xs ++ news) ∧ w.grownBy w' v.ownBlock ∧ (v' = .slice none 0 0 ↔ v = .slice none 0 0 ∧ m = 0) ∧ (v'.ownBlock = v.ownBlock ∨ ∃ b, v'.ownBlock = some b ∧ w.heap.size ≤ b)
theorem setCells_row (g : Nat) {e : TypeId} : ∀ (vs : List Value) (o : Nat) (w : World) (cur : Array Value), w.heap[g]? = some (.cells cur e (0, 0)) → o + vs.length ≤ cur.size →
    ∃ cur' : Array Value, (w.setCells g o vs).heap[g]? = some (.cells cur' e (0, 0)) ∧ cur'.size = cur.size ∧ cur'.toList.take (o + vs.length) = cur.toList.take o ++ vs
  | [], o, w, cur, h, _ => ⟨cur, h, rfl, by simp⟩
  | v :: r, o, w, cur, h, hl => by
    have h1 := heap_setCell_same w g o cur e v h
    obtain ⟨cur', a1, a2, a3⟩ := setCells_row g r (o + 1) (w.setCell ⟨g, o, none⟩ v) _ h1 (by simp at hl ⊢; omega)
    refine ⟨cur', a1, by simpa using a2, ?_⟩
    have e1 : o + (v :: r).length = o + 1 + r.length := by simp; omega
    rw [e1, a3]
    have ho : o < cur.toList.length := by simp at hl ⊢; omega
    rw [Array.toList_setIfInBounds, List.take_succ_eq_append_getElem (by simpa using ho)]
    simp [List.take_set, List.getElem_set]
    exact List.set_eq_of_length_le (by simp; omega)
theorem setCells_other (g : Nat) : ∀ (vs : List Value) (o : Nat) (w : World) (k : Nat), k ≠ g → (w.setCells g o vs).heap[k]? = w.heap[k]?
  | [], _, _, _, _ => rfl
  | v :: r, o, w, k, h => by
    rw [World.setCells, setCells_other g r _ _ k h]
    exact heap_setCell_other w ⟨g, o, none⟩ k v (by simpa using h)
theorem setCells_meta (g : Nat) : ∀ (vs : List Value) (o : Nat) (w : World), (w.setCells g o vs).os = w.os ∧ (w.setCells g o vs).tape = w.tape ∧ (w.setCells g o vs).output = w.output ∧ (w.setCells g o vs).heap.size = w.heap.size
  | [], _, _ => ⟨rfl, rfl, rfl, rfl⟩
  | v :: r, o, w => by
    obtain ⟨h1, h2, h3, h4⟩ := setCells_meta g r (o + 1) (w.setCell ⟨g, o, none⟩ v)
    exact ⟨h1, h2, h3, by rw [World.setCells, h4]; simp⟩
section
variable {P : Program} (w : World)
theorem own_grown (base e size n m old : Nat) (z : Value) (xs news : List Value) (hzs : z.cells.size = size) (hxs : xs.length = n * size) (hl : news.length = m * size) (h63 : n + m ≤ maxLen) (ho : old < n + m) (hbase : base ≤ w.heap.size) (row : Option Nat) :
    (w.drew.alloc (.cells ((xs ++ news).toArray ++ Builtin.zeroCells z.cells (grownCap w (n + m) old e - (n + m))) e)).ownsRow base e size
      (.slice (some ⟨w.heap.size, 0, none⟩) (n + m) (grownCap w (n + m) old e)) (n + m) (xs ++ news) ∧
    w.grownBy (w.drew.alloc (.cells ((xs ++ news).toArray ++ Builtin.zeroCells z.cells (grownCap w (n + m) old e - (n + m))) e)) row := by
  have hge := grownCap_ge w (n + m) old e
  have hcm : grownCap w (n + m) old e ≤ maxLen := grownCap_le_maxLen w (n + m) old e h63
  have hlen : (xs ++ news).length = (n + m) * size := by rw [List.length_append, hxs, hl, Nat.add_mul]
  refine ⟨⟨hlen, .inr ⟨w.heap.size, _, _, rfl, hbase, heap_alloc_new w.drew _, hge, hcm, ?_, ?_⟩⟩, ⟨rfl, rfl, rfl, by simp, fun k hk _ => heap_alloc_old w.drew _ hk⟩⟩
  · simp only [Array.size_append, List.size_toArray, size_zeroCells, hzs, hlen, ← Nat.add_mul]
    congr 1
    omega
  · simp only [Array.toList_append]
    rw [← hlen]
    exact List.take_left
theorem own_room (base e size n m g cap : Nat) (cur : Array Value) (xs news : List Value) (hxs : xs.length = n * size) (hl : news.length = m * size) (hbg : base ≤ g) (hg : w.heap[g]? = some (.cells cur e (0, 0))) (hcm : cap ≤ maxLen) (hcs : cur.size = cap * size)
    (htake : cur.toList.take (n * size) = xs) (hroom : n + m ≤ cap) :
    (w.setCells g (n * size) news).ownsRow base e size (.slice (some ⟨g, 0, none⟩) (n + m) cap) (n + m) (xs ++ news) ∧ w.grownBy (w.setCells g (n * size) news) (some g) := by
  have hfit : n * size + news.length ≤ cur.size := by rw [hl, hcs, ← Nat.add_mul]; exact Nat.mul_le_mul_right _ hroom
  obtain ⟨cur', a1, a2, a3⟩ := setCells_row g news (n * size) w cur hg hfit
  obtain ⟨m1, m2, m3, m4⟩ := setCells_meta g news (n * size) w
  refine ⟨⟨by rw [List.length_append, hxs, hl, Nat.add_mul], .inr ⟨g, cap, cur', rfl, hbg, a1, hroom, hcm, a2.trans hcs, ?_⟩⟩, ⟨m1, m2, m3, by omega, fun k _ hk => setCells_other g news _ w k (fun e => hk (by rw [e]))⟩⟩
  rw [← htake, ← a3, hl, ← Nat.add_mul]
theorem app_src (t tx ty base e : TypeId) (i : TypeInfo) (z : Value) (size bytes : Nat) (ht : P.underlying t = some (.slice e)) (hi : P.info? e = some i) (hz : i.zero = some z)
    (hsize : i.size = size) (hby : i.bytes = bytes) (hzs : z.cells.size = size) (hsz : 0 < size)
    (v x : Value) (n m : Nat) (xs news : List Value) (hown : w.ownsRow base e size v n xs) (hs : Src P size tx x m news w)
    (h63 : n + m ≤ maxLen) (hbytes : (n + m) * bytes ≤ 140737488355328) (hbase : base ≤ w.heap.size) : AppTo P w t tx ty v x base e size n m xs news := by
  subst hsize
  subst hby
  have hsmall : n + m ≤ 9223372036854775807 := by simp only [maxLen] at h63; omega
  rcases hown.2 with ⟨rfl, rfl⟩ | ⟨g, cap, cur, rfl, hbg, hg, hnc, hcm, hcs, htake⟩
  · have hx : xs = [] := List.eq_nil_of_length_eq_zero (by simpa using hown.1)
    subst hx
    by_cases hm : m = 0
    · subst hm
      have hn : news = [] := List.eq_nil_of_length_eq_zero (by simpa using hs.newsLen)
      subst hn
      refine ⟨.slice none 0 0, w, ?_, World.ownsRow_nil w base e i.size, ⟨rfl, rfl, rfl, Nat.le_refl _, fun _ _ _ => rfl⟩, ⟨by simp, .inl rfl⟩⟩
      rcases hs.kind with ⟨e', hk⟩ | hk <;> simp [Builtin.append_, run_underlying ht, run_underlying hk, sizeOf, typeInfo, hi, hs.len, hs.cells]
    · have hold : (Builtin.firstCells i.size 0 (.slice none 0 0)).run P w.drew = .ok ([] : List Value).toArray w.drew := run_firstCells_none w.drew i.size 0 0 0
      have hr := run_append_grow_src (P := P) w t tx ty e i z ht hi hz none 0 0 [] hold x m news hs (by omega) (by omega) (growslice_fits (by omega) (by simpa using hbytes))
      have hgr := own_grown w base e i.size 0 m 0 z [] news hzs (by simp) hs.newsLen h63 (by omega) hbase none
      exact ⟨_, _, hr, hgr.1, hgr.2, ⟨by simp [hm], .inr ⟨_, rfl, Nat.le_refl _⟩⟩⟩
  · by_cases hroom : n + m ≤ cap
    · have hfit : n * i.size + news.length ≤ cur.size := by rw [hs.newsLen, hcs, ← Nat.add_mul]; exact Nat.mul_le_mul_right _ hroom
      have hr := run_append_room_src (P := P) w t tx ty e i ht hi g 0 n cap x m news hs hroom
        (fun j hj => by rw [cell_of_row w g _ cur e (0, 0) hg, Nat.zero_add, Array.getElem?_eq_getElem (by omega)]; rfl) (fun j _ => frozen_of_row w g _ cur e hg)
      rw [Nat.zero_add] at hr
      have ho := own_room w base e i.size n m g cap cur xs news hown.1 hs.newsLen hbg hg hcm hcs htake hroom
      exact ⟨_, _, hr, ho.1, ho.2, ⟨by simp, .inl rfl⟩⟩
    · have holds : ∀ j u, xs[j]? = some u → w.drew.cell? ((⟨g, 0, none⟩ : Addr).add j) = some u := fun j u hu => hown.cells (g := g) rfl j u hu
      have hold := run_firstCells_some (P := P) w.drew i.size n ⟨g, 0, none⟩ n cap xs hown.1 holds
      have hr := run_append_grow_src (P := P) w t tx ty e i z ht hi hz (some ⟨g, 0, none⟩) n cap xs hold x m news hs (by omega) (by omega) (growslice_fits (by omega) hbytes)
      have hgr := own_grown w base e i.size n m cap z xs news hzs hown.1 hs.newsLen h63 (by omega) hbase (some g)
      exact ⟨_, _, hr, hgr.1, hgr.2, ⟨by simp, .inr ⟨_, rfl, Nat.le_refl _⟩⟩⟩
theorem app_zeros (t tn ty base e : TypeId) (i : TypeInfo) (z : Value) (k kn : IntKind) (ht : P.underlying t = some (.slice e)) (htn : P.underlying tn = some (.int kn)) (hi : P.info? e = some i) (hz : i.zero = some z)
    (hsize : i.size = 1) (hby : i.bytes = 1) (hzs : z.cells = #[z]) (h1 : z.oneCell' = true)
    (v : Value) (n m : Nat) (xs : List Value) (hown : w.ownsRow base e 1 v n xs)
    (h63 : n + m ≤ maxLen) (hbytes : n + m ≤ 140737488355328) (hbase : base ≤ w.heap.size) : AppTo P w t tn ty v (.int k m) base e 1 n m xs (List.replicate m z) := by
  have hw : IntKind.i64.wrap (m : Int) = m := by rw [IntKind.wrap_i64]; omega
  have hneg : ¬ ((m : Int) < 0) := by omega
  have h48i : ¬ (281474976710656 < (m : Int)) := by omega
  have hzc : Builtin.zeroCells #[z] m = (List.replicate m z).toArray := by
    apply Array.ext'
    apply List.ext_getElem?
    intro j
    by_cases hj : j < m
    · simp [Builtin.zeroCells, hj, Nat.mod_one]
    · simp [Builtin.zeroCells, hj]
  have hw0 : IntKind.i64.wrap 0 = 0 := by rw [IntKind.wrap_i64]; rfl
  by_cases hm : m = 0
  · subst hm
    rcases hown.2 with ⟨rfl, rfl⟩ | ⟨g, cap, cur, rfl, hbg, hg, hnc, hcm, hcs, htake⟩
    · refine ⟨.slice none 0 0, w, ?_, by simpa using hown, ⟨rfl, rfl, rfl, Nat.le_refl _, fun _ _ _ => rfl⟩, ⟨by simp, .inl rfl⟩⟩
      simp [Builtin.append_, run_underlying ht, run_underlying htn, sizeOf, typeInfo, hi, asInt, asIntOf, hsize, hby, hw0]
    · refine ⟨.slice (some ⟨g, 0, none⟩) n cap, w, ?_, by simpa using hown, ⟨rfl, rfl, rfl, Nat.le_refl _, fun _ _ _ => rfl⟩, ⟨by simp, .inl rfl⟩⟩
      simp [Builtin.append_, run_underlying ht, run_underlying htn, sizeOf, typeInfo, hi, asInt, asIntOf, hsize, hby, hnc, hw0, storeCells]
  · rcases hown.2 with ⟨rfl, rfl⟩ | ⟨g, cap, cur, rfl, hbg, hg, hnc, hcm, hcs, htake⟩
    · have hx : xs = [] := List.eq_nil_of_length_eq_zero (by simpa using hown.1)
      subst hx
      have hr := Lib.run_append_nil_zeros (P := P) w t tn ty e i z k kn ht htn hi hz m (by omega) (by omega) (by omega) (by rw [hby]; omega)
      have hgr := own_grown w base e 1 0 m 0 z [] (List.replicate m z) (by rw [hzs]; rfl) (by simp) (by simp) h63 (by omega) hbase none
      simp only [Nat.zero_add, List.nil_append] at hgr ⊢
      rw [hzs] at hgr hr
      rw [hzc] at hr
      refine ⟨_, _, hr, ?_, hgr.2, ⟨by simp [hm], .inr ⟨_, rfl, Nat.le_refl _⟩⟩⟩
      rw [Nat.zero_add]
      exact hgr.1
    · by_cases hroom : n + m ≤ cap
      · have hst := run_storeCells_cells (P := P) g (0 + n * 1) (List.replicate m z) 0 w (fun j hj => by rw [cell_of_row w g _ cur e (0, 0) hg, Array.getElem?_eq_getElem (by simp at hj; omega)]; rfl) (fun j _ => frozen_of_row w g _ cur e hg)
          (fun u hu => by rw [List.eq_of_mem_replicate hu]; exact h1)
        have ho := own_room w base e 1 n m g cap cur xs (List.replicate m z) hown.1 (by simp) hbg hg hcm hcs htake hroom
        refine ⟨.slice (some ⟨g, 0, none⟩) (n + m) cap, w.setCells g (n * 1) (List.replicate m z), ?_, ho.1, ho.2, ⟨by simp, .inl rfl⟩⟩
        simp only [Nat.zero_add, Nat.add_zero, Nat.mul_one] at hst ⊢
        simp [Builtin.append_, run_underlying ht, run_underlying htn, sizeOf, typeInfo, zeroValue, hi, hz, asInt, asIntOf, hw, hneg, h48i, hsize, hby, hroom, hm, hzs, hzc, Addr.add_lit, hst]
      · have holds : ∀ j u, xs[j]? = some u → w.drew.cell? ((⟨g, 0, none⟩ : Addr).add j) = some u := fun j u hu => hown.cells (g := g) rfl j u hu
        have hold := run_firstCells_some (P := P) w.drew 1 n ⟨g, 0, none⟩ n cap xs hown.1 holds
        have hgr := own_grown w base e 1 n m cap z xs (List.replicate m z) (by rw [hzs]; rfl) hown.1 (by simp) h63 (by omega) hbase (some g)
        have hn : ¬ (n + m ≤ cap) := hroom
        have h63' : ¬ (9223372036854775807 < ((n : Int) + (m : Int))) := by omega
        have h48' : ¬ (281474976710656 < Builtin.nextslicecap (n + m) cap) := by
          have := growslice_fits (need := n + m) (old := cap) (bytes := 1) (by omega) (by omega)
          omega
        refine ⟨_, _, ?_, hgr.1, hgr.2, ⟨by simp, .inr ⟨_, rfl, Nat.le_refl _⟩⟩⟩
        simp [Builtin.append_, run_underlying ht, run_underlying htn, sizeOf, typeInfo, zeroValue, hi, hz, asInt, asIntOf, hw, hneg, h48i, hsize, hby, hn, hm, hzs, hzc, h63', h48', Question.forced, hold, newRow, grownCap]
        congr 2
        apply Array.ext'
        simp [List.append_assoc]
theorem wpList_app {ops : Array Oper} {rest : List Oper} {o : Oper} {a : Act} {Q : Exit → Act → World → Prop} (hgd : o.guard = none) (s x : Operand) (t tx : TypeId)
    (ho : o.op = .call { callee := .builtin .append, args := #[s, x], argTypes := #[t, tx] }) (vs vx : Value) (hs : a.eval s = vs) (hx : a.eval x = vx) {base e size n m : Nat} {xs news : List Value}
    (happ : ∀ ty, AppTo P w t tx ty vs vx base e size n m xs news)
    (h : ∀ v' w', w'.ownsRow base e size v' (n + m) (xs ++ news) → w.grownBy w' vs.ownBlock → ((v' = .slice none 0 0 ↔ vs = .slice none 0 0 ∧ m = 0) ∧ (v'.ownBlock = vs.ownBlock ∨ ∃ b, v'.ownBlock = some b ∧ w.heap.size ≤ b)) → wpList P ops Q rest (a.put o.dst v') w') : wpList P ops Q (o :: rest) a w := by
  obtain ⟨v', w', hr, h1, h2, h3⟩ := happ o.type
  exact Lib.wpList_append_run w hgd s x t tx ho vs vx hs hx v' w' hr (h v' w' h1 h2 h3)
end
def OwnBs (t : TypeId) (w : World) (B : Nat) (v : Value) (l : List UInt8) : Prop := w.ownsRow B t 1 v l.length (l.map byteV)
theorem OwnBs.nil (t : TypeId) (w : World) (B : Nat) : OwnBs t w B (.slice none 0 0) [] := World.ownsRow_nil w B t 1
theorem OwnBs.slice {t : TypeId} {w : World} {B N : Nat} {v : Value} {l : List UInt8} (h : OwnBs t w B v l) (hN : l.length ≤ N) : SliceC N 1 ByteC w [v] l := by
  rcases h.2 with ⟨rfl, h0⟩ | ⟨g, cap, cur, rfl, hbg, hg, hnc, hcm, hcs, htake⟩
  · obtain rfl : l = [] := List.eq_nil_of_length_eq_zero h0
    exact ⟨none, 0, rfl, by simp, by simp, by simp, fun _ => rfl, fun h => absurd h (by simp)⟩
  · refine ⟨some ⟨g, 0, none⟩, cap, rfl, hnc, hcm, hN, (fun h => by cases h), fun _ => ⟨g, 0, rfl, fun i hi => ⟨[byteV l[i]], rfl, fun j hj => ?_, rfl⟩⟩⟩
    obtain rfl : j = 0 := by omega
    have := OwnB.cell (t := t) (w := w) (B := B) (g := g) (cap := cap) (l := l) h hi
    simp only [Nat.zero_add, Nat.mul_one, Nat.add_zero]
    rw [this]
    simp [bl, byteV, List.getD_eq_getElem?_getD, List.getElem?_eq_getElem hi]
theorem OwnBs.form {t : TypeId} {w : World} {B : Nat} {v : Value} {l : List UInt8} (h : OwnBs t w B v l) : (v = .slice none 0 0 ∧ l = []) ∨ ∃ g cap, v = .slice (some ⟨g, 0, none⟩) l.length cap ∧ OwnB t w B g cap l := by
  rcases h.2 with ⟨rfl, h0⟩ | ⟨g, cap, cur, rfl, hbg, hg, hnc, hcm, hcs, htake⟩
  · exact .inl ⟨rfl, List.eq_nil_of_length_eq_zero h0⟩
  · exact .inr ⟨g, cap, rfl, h⟩
theorem src_bytes {P : Program} {w : World} {N : Nat} {v : Value} {l : List UInt8} {tx e' : TypeId} (hk : P.underlying tx = some (.slice e')) (h : SliceC N 1 ByteC w [v] l) : Src P 1 tx v l.length (l.map byteV) w := by
  have hone : ∀ u ∈ l.map byteV, u.oneCell' = true := by
    intro u hu
    obtain ⟨_, _, rfl⟩ := List.mem_map.1 hu
    rfl
  rcases bytes_cases h with ⟨a, cap, rfl, rfl⟩ | ⟨b, off, cap, rfl, hpos, hle, hm, _, hc⟩
  · cases a with
    | none => exact Src.ofNil w hk cap
    | some a => exact Src.ofSlice w hk a 0 cap [] (by simp) (fun j u hu => by simp at hu) (fun u hu => by simp at hu)
  · refine Src.ofSlice w hk ⟨b, off, none⟩ l.length cap (l.map byteV) (by simp) (fun j u hu => ?_) hone
    have hj : j < l.length := by
      rcases Nat.lt_or_ge j l.length with h | h
      · exact h
      · rw [List.getElem?_eq_none (by simpa using h)] at hu; cases hu
    have e : (⟨b, off, none⟩ : Addr).add j = ⟨b, off + j, none⟩ := by unfold Addr.add; split <;> simp_all
    rw [e, hc j hj]
    simp [List.getElem?_eq_getElem hj] at hu
    rw [← hu]
    simp [bl, byteV, List.getD_eq_getElem?_getD, List.getElem?_eq_getElem hj]
theorem app_bytes {P : Program} (w : World) (t tx e e' : TypeId) (i : TypeInfo) (ht : P.underlying t = some (.slice e)) (htx : P.underlying tx = some (.slice e')) (hi : P.info? e = some i) (hz : i.zero = some (.int .u8 0)) (h1 : i.size = 1) (hb : i.bytes = 1)
    {B N : Nat} {v x : Value} {l m : List UInt8} (hv : OwnBs e w B v l) (hx : SliceC N 1 ByteC w [x] m) (hbound : l.length + m.length ≤ 140737488355328) (hB : B ≤ w.heap.size) (ty : TypeId) :
    AppTo P w t tx ty v x B e 1 l.length m.length (l.map byteV) (m.map byteV) :=
  app_src w t tx ty B e i (.int .u8 0) 1 1 ht hi hz h1 hb rfl (by decide) v x l.length m.length _ _ hv (src_bytes htx hx) (by unfold maxLen; omega) (by omega) hB
theorem app_bytes_zeros {P : Program} (w : World) (t tn e : TypeId) (i : TypeInfo) (ht : P.underlying t = some (.slice e)) (htn : P.underlying tn = some (.int .i64)) (hi : P.info? e = some i) (hz : i.zero = some (.int .u8 0)) (h1 : i.size = 1) (hb : i.bytes = 1)
    {B : Nat} {v : Value} {l : List UInt8} (m : Nat) (hv : OwnBs e w B v l) (hbound : l.length + m ≤ 140737488355328) (hB : B ≤ w.heap.size) (ty : TypeId) :
    AppTo P w t tn ty v (.int .i64 m) B e 1 l.length m (l.map byteV) ((List.replicate m (0 : UInt8)).map byteV) := by
  have := app_zeros w t tn ty B e i (.int .u8 0) .i64 .i64 ht htn hi hz h1 hb rfl rfl v l.length m _ hv (by unfold maxLen; omega) hbound hB
  simpa [byteV] using this
theorem OwnBs.app {t : TypeId} {w' : World} {B : Nat} {v' : Value} {l m : List UInt8} (h : w'.ownsRow B t 1 v' (l.length + m.length) (l.map byteV ++ m.map byteV)) : OwnBs t w' B v' (l ++ m) := by
  unfold OwnBs
  rw [List.length_append, List.map_append]
  exact h
theorem OwnBs.appz {t : TypeId} {w' : World} {B k : Nat} {v' : Value} {l : List UInt8} (h : w'.ownsRow B t 1 v' (l.length + k) (l.map byteV ++ (List.replicate k (0 : UInt8)).map byteV)) : OwnBs t w' B v' (l ++ List.replicate k 0) := by
  unfold OwnBs
  rw [List.length_append, List.length_replicate, List.map_append]
  exact h
theorem below_app {B : Nat} {w0 w w' : World} {e size n : Nat} {v : Value} {xs : List Value} (hb : Below B w0 w) (hg : w.grownBy w' v.ownBlock) (hv : w.ownsRow B e size v n xs) (hB : B ≤ w.heap.size) : Below B w0 w' :=
  hb.grown hg hB (fun k hk => (World.ownsRow.lt hv k hk).1)
theorem src_one {P : Program} (w : World) (tx e' e : TypeId) (hk : P.underlying tx = some (.slice e')) (c : Value) (hc : c.oneCell' = true) : Src P 1 tx (.slice (some ⟨w.heap.size, 0, none⟩) 1 1) 1 [c] (w.alloc (.cells #[c] e)) := by
  refine Src.ofSlice _ hk ⟨w.heap.size, 0, none⟩ 1 1 [c] rfl (fun j u hu => ?_) (fun u hu => by simp at hu; rw [hu]; exact hc)
  match j, hu with
  | 0, hu =>
    simp at hu
    subst hu
    simp [Addr.add]
open Go.RowKit
def Rec.cl (r : Rec) : List Value := [.string r.key, .string r.value]
theorem Rec.cl_len (r : Rec) : r.cl.length = 2 := rfl
theorem flatC_at : ∀ (l : List Rec) (k j : Nat), k < l.length → j < 2 → (l.flatMap Rec.cl)[k * 2 + j]? = (rk l k).cl[j]?
  | [], _, _, h, _ => absurd h (by simp)
  | x :: r, 0, j, _, hj => by
    rw [List.flatMap_cons, Nat.zero_mul, Nat.zero_add, List.getElem?_append_left (by rw [Rec.cl_len]; omega)]
    rfl
  | x :: r, k + 1, j, hk, hj => by
    rw [List.flatMap_cons, List.getElem?_append_right (by rw [Rec.cl_len]; omega), Rec.cl_len]
    have e : (k + 1) * 2 + j - 2 = k * 2 + j := by omega
    rw [e, flatC_at r k j (by simpa using hk) hj]
    rfl
def OwnRecs (t : TypeId) (w : World) (B : Nat) (v : Value) (l : List Rec) : Prop := w.ownsRow B t 2 v l.length (l.flatMap Rec.cl)
variable {t : TypeId} {w w' : World} {B : Nat} {v v' : Value} {l m : List Rec}
theorem OwnRecs.nil (t : TypeId) (w : World) (B : Nat) : OwnRecs t w B (.slice none 0 0) [] := World.ownsRow_nil w B t 2
theorem OwnRecs.below (h : OwnRecs t w B v l) (hb : Below w.heap.size w w') : OwnRecs t w' B v l := by
  refine ⟨h.1, ?_⟩
  rcases h.2 with h0 | ⟨g, cap, cur, hv, hbg, hg, r⟩
  · exact .inl h0
  · refine .inr ⟨g, cap, cur, hv, hbg, ?_, r⟩
    rw [hb.block g (Array.getElem?_eq_some_iff.1 hg).1]
    exact hg
theorem OwnRecs.form (h : OwnRecs t w B v l) : (v = .slice none 0 0 ∧ l = []) ∨ ∃ g cap, v = .slice (some ⟨g, 0, none⟩) l.length cap ∧ B ≤ g ∧ g < w.heap.size ∧ l.length ≤ cap ∧ cap ≤ maxLen := by
  rcases h.2 with ⟨rfl, h0⟩ | ⟨g, cap, cur, rfl, hbg, hg, hnc, hcm, hcs, htake⟩
  · exact .inl ⟨rfl, List.eq_nil_of_length_eq_zero h0⟩
  · exact .inr ⟨g, cap, rfl, hbg, (Array.getElem?_eq_some_iff.1 hg).1, hnc, hcm⟩
theorem OwnRecs.recAt {g cap : Nat} (h : OwnRecs t w B (.slice (some ⟨g, 0, none⟩) l.length cap) l) {k : Nat} (hk : k < l.length) :
    w.cell? ⟨g, k * 2, none⟩ = some (.string (rk l k).key) ∧ w.cell? ⟨g, k * 2 + 1, none⟩ = some (.string (rk l k).value) := by
  have c := fun j hj => (World.ownsRow.cellAt h (k * 2 + j) (by omega)).trans (flatC_at l k j hk hj)
  exact ⟨c 0 (by omega), c 1 (by omega)⟩
theorem rk_eq {l : List Rec} {k : Nat} (hk : k < l.length) : rk l k = l[k] := by simp [rk, List.getD_eq_getElem?_getD, List.getElem?_eq_getElem hk]
theorem OwnRecs.slice (h : OwnRecs t w B v l) (hl : l.length ≤ maxLen) (hz : ∀ r ∈ l, r.key.size ≤ maxLen ∧ r.value.size ≤ maxLen) : SliceC maxLen 2 (RecC maxLen) w [v] l := by
  rcases h.2 with ⟨rfl, h0⟩ | ⟨g, cap, cur, rfl, hbg, hg, hnc, hcm, hcs, htake⟩
  · obtain rfl := List.eq_nil_of_length_eq_zero h0
    exact ⟨none, 0, rfl, by simp, by simp, by simp, fun _ => rfl, fun h => absurd h (by simp)⟩
  · refine ⟨some ⟨g, 0, none⟩, cap, rfl, hnc, hcm, hl, (fun h => by cases h), fun _ => ⟨g, 0, rfl, fun i hi => ⟨(l[i]).cl, rfl, fun j hj => ?_, rfl, hz _ (List.getElem_mem hi)⟩⟩⟩
    rw [Nat.zero_add, World.ownsRow.cellAt h _ (by omega), flatC_at l i j hi hj, rk_eq hi]
def RetRecs (t : TypeId) (w : World) (p : List Rec × Int) (e : Ending) (w' : World) : Prop := ∃ v, e = .returned (.tuple #[v, .int .i64 p.2]) ∧ OwnRecs t w' w.heap.size v p.1 ∧ Below w.heap.size w w'
theorem src_rec {P : Program} (w : World) (tx e' e : TypeId) (hk : P.underlying tx = some (.slice e')) (x : Rec) : Src P 2 tx (.slice (some ⟨w.heap.size, 0, none⟩) 1 1) 1 ([x].flatMap Rec.cl) (w.alloc (.cells #[.string x.key, .string x.value] e)) := by
  refine Src.ofSlice _ hk ⟨w.heap.size, 0, none⟩ 1 1 _ rfl (fun j u hu => ?_) (fun u hu => ?_)
  · have hj : j < 2 := by
      rcases Nat.lt_or_ge j 2 with h | h
      · exact h
      · rw [List.getElem?_eq_none (by simpa [Rec.cl] using h)] at hu; cases hu
    have e : (⟨w.heap.size, 0, none⟩ : Addr).add j = ⟨w.heap.size, j, none⟩ := by unfold Addr.add; split <;> simp_all
    rw [e, World.cell?_alloc_new]
    simpa [Rec.cl] using hu
  · simp [Rec.cl] at hu
    rcases hu with rfl | rfl <;> rfl
theorem OwnRecs.app {t : TypeId} {w' : World} {B : Nat} {v' : Value} {l m : List Rec} (ho : w'.ownsRow B t 2 v' (l.length + m.length) (l.flatMap Rec.cl ++ m.flatMap Rec.cl)) : OwnRecs t w' B v' (l ++ m) := by
  unfold OwnRecs; rw [List.length_append, List.flatMap_append]; exact ho
theorem OwnRecs.form2 {t : TypeId} {w : World} {B : Nat} {v : Value} {l : List Rec} (h : OwnRecs t w B v l) : ∃ a cap, v = .slice a l.length cap ∧ cap ≤ maxLen ∧ (0 < l.length → ∃ g, a = some ⟨g, 0, none⟩ ∧ l.length ≤ cap ∧ g < w.heap.size) := by
  rcases h.form with ⟨rfl, rfl⟩ | ⟨g, cap, rfl, _, h1, h2, h3⟩
  · exact ⟨none, 0, rfl, by simp, fun h => absurd h (by simp)⟩
  · exact ⟨_, cap, rfl, h3, fun _ => ⟨g, rfl, h2, h1⟩⟩
end Go.Creel
namespace Go.Proofs.YtaffgndickdbiaaGreatDoor
open Go.Creel Go.RowKit
theorem info_record : (Tryz.prog.info? 85).map (fun i => (i.zero, i.size, i.bytes)) = some (some (.agg #[.string ⟨#[]⟩, .string ⟨#[]⟩]), 2, 32) := by kernel_rfl
end Go.Proofs.YtaffgndickdbiaaGreatDoor
namespace Go.Creel
open Go.RowKit
theorem ownsRow_elsewhere {w : World} {B size n b j : Nat} {t : TypeId} {v : Value} {xs : List Value} (u : Value) (h : w.ownsRow B t size v n xs) (hne : v.ownBlock ≠ some b) : (w.setCell ⟨b, j, none⟩ u).ownsRow B t size v n xs := by
  refine ⟨h.1, ?_⟩
  rcases h.2 with h0 | ⟨g, cap, cur, rfl, hbg, hg, r⟩
  · exact .inl h0
  · refine .inr ⟨g, cap, cur, rfl, hbg, ?_, r⟩
    rw [heap_setCell_other w ⟨b, j, none⟩ g u (fun e => hne (by rw [e]; rfl))]
    exact hg
theorem ownsRow_form2 {w : World} {B size n : Nat} {t : TypeId} {v : Value} {xs : List Value} (h : w.ownsRow B t size v (n + 1) xs) : ∃ g cap, v = .slice (some ⟨g, 0, none⟩) (n + 1) cap := by
  rcases h.2 with ⟨_, h0⟩ | ⟨g, cap, cur, rfl, _⟩
  · omega
  · exact ⟨g, cap, rfl⟩
structure RecSt (tR tP : TypeId) (w0 w : World) (b : Nat) (cs : Array Value) (v : Value) (l : List Rec) : Prop where
  row : w.heap[b]? = some (.cells cs tP (0, 0))
  own : OwnRecs tR w (b + 1) v l
  low : w0.heap.size ≤ b
  bel : Below w0.heap.size w0 w
section
variable {tR tP : TypeId} {w0 w w' w4 : World} {b : Nat} {cs : Array Value} {v v4 : Value} {l : List Rec}
theorem RecSt.lt (h : RecSt tR tP w0 w b cs v l) : b < w.heap.size := (Array.getElem?_eq_some_iff.1 h.row).1
theorem RecSt.below (h : RecSt tR tP w0 w b cs v l) (hb : Below w.heap.size w w') : RecSt tR tP w0 w' b cs v l :=
  ⟨(hb.block b h.lt).trans h.row, h.own.below hb, h.low, h.bel.trans (hb.mono h.bel.size)⟩
theorem RecSt.cell (h : RecSt tR tP w0 w b cs v l) (j : Nat) : w.cell? ⟨b, j, none⟩ = cs[j]? := cell_of_row w b j cs tP (0, 0) h.row
theorem RecSt.free (h : RecSt tR tP w0 w b cs v l) (j : Nat) : w.frozen? ⟨b, j, none⟩ = false := frozen_of_row w b j cs tP h.row
theorem RecSt.ne (h : RecSt tR tP w0 w b cs v l) : v.ownBlock ≠ some b := fun e => by have := (World.ownsRow.lt h.own b e).1; omega
theorem RecSt.row4 (h : RecSt tR tP w0 w b cs v l) (hg : w.grownBy w4 v.ownBlock) : w4.heap[b]? = some (.cells cs tP (0, 0)) :=
  (by obtain ⟨a1, a2, a3, a4, a5⟩ := hg; exact (a5 b h.lt (fun e => h.ne e.symm)).trans h.row)
theorem RecSt.cell4 (h : RecSt tR tP w0 w b cs v l) (hg : w.grownBy w4 v.ownBlock) (j : Nat) : w4.cell? ⟨b, j, none⟩ = cs[j]? := cell_of_row w4 b j cs tP (0, 0) (h.row4 hg)
theorem RecSt.free4 (h : RecSt tR tP w0 w b cs v l) (hg : w.grownBy w4 v.ownBlock) (j : Nat) : w4.frozen? ⟨b, j, none⟩ = false := frozen_of_row w4 b j cs tP (h.row4 hg)
theorem RecSt.put (h : RecSt tR tP w0 w b cs v l) (j : Nat) (u : Value) {cs' : Array Value} (e : cs.setIfInBounds j u = cs') : RecSt tR tP w0 (w.setCell ⟨b, j, none⟩ u) b cs' v l := by
  subst e
  exact ⟨heap_setCell_same w b j _ tP _ h.row, ownsRow_elsewhere _ h.own h.ne, h.low, h.bel.setCell (p := ⟨b, j, none⟩) h.low u⟩
theorem RecSt.say (h : RecSt tR tP w0 w b cs v l) (j : Nat) {r : Rec} (ho : w4.ownsRow (b + 1) tR 2 v4 (l.length + 1) (l.flatMap Rec.cl ++ [r].flatMap Rec.cl)) (hg : w.grownBy w4 v.ownBlock) {cs' : Array Value} (e : cs.setIfInBounds j v4 = cs') :
    RecSt tR tP w0 (w4.setCell ⟨b, j, none⟩ v4) b cs' v4 (l ++ [r]) := by
  subst e
  have own4 : OwnRecs tR w4 (b + 1) v4 (l ++ [r]) := OwnRecs.app (m := [r]) ho
  have hne4 : v4.ownBlock ≠ some b := fun e => by have := (World.ownsRow.lt own4 b e).1; omega
  refine ⟨heap_setCell_same w4 b j _ tP _ (h.row4 hg), ownsRow_elsewhere _ own4 hne4, h.low, ?_⟩
  refine Below.setCell ?_ (p := ⟨b, j, none⟩) h.low v4
  exact h.bel.grown hg h.bel.size (fun k hk => by have := (World.ownsRow.lt h.own k hk).1; have := h.low; omega)
theorem RecSt.since {wx : World} (h : RecSt tR tP wx w b cs v l) (hb : Below w0.heap.size w0 wx) : RecSt tR tP w0 w b cs v l :=
  ⟨h.row, h.own, Nat.le_trans hb.size h.low, hb.trans (h.bel.mono hb.size)⟩
end
def hasB (s : ByteArray) (c : UInt8) : Bool := s.data.toList.any (· == c)
theorem get_byt (s : ByteArray) (k : Nat) (h : k < s.size) (c : UInt8) : (s.data.toList[k]'(by simpa using h) = c) ↔ byt s k = c.toNat := by
  unfold byt
  rw [List.getD_eq_getElem?_getD, List.getElem?_eq_getElem (by simpa using h)]
  constructor
  · intro e; simp [e]
  · intro e; exact UInt8.toNat_inj.1 e
theorem hasB_true {s : ByteArray} {c : UInt8} {k : Nat} (h : k < s.size) (e : byt s k = c.toNat) : hasB s c = true := by
  unfold hasB
  rw [List.any_eq_true]
  exact ⟨_, List.getElem_mem (by simpa using h), by rw [beq_iff_eq]; exact (get_byt s k h c).2 e⟩
theorem hasB_false {s : ByteArray} {c : UInt8} (h : ∀ k, k < s.size → byt s k ≠ c.toNat) : hasB s c = false := by
  unfold hasB
  rw [List.any_eq_false]
  intro x hx
  obtain ⟨k, hk, rfl⟩ := List.getElem_of_mem hx
  have hk' : k < s.size := by simpa using hk
  rw [beq_iff_eq]
  exact fun e => h k hk' ((get_byt s k hk' c).1 e)
theorem idx_has (s : ByteArray) (c : UInt8) : decide (0 ≤ firstIdx s c) = hasB s c := firstIdx_nonneg s c
theorem idx_none {s : ByteArray} {c : UInt8} (h : hasB s c = false) : firstIdx s c = -1 := by
  apply firstIdx_none
  unfold hasB at h
  rw [List.any_eq_false] at h
  intro b hb e
  exact h b hb (by simp [e])
end Go.Creel
namespace Go.Proofs.YtaffgndickdbiaaGreatDoor
open Go.Creel Go.RowKit
theorem call_indexByteString (s : ByteArray) (n : Int) (w : World) : (callFunc 199 #[.string s, .int .u8 n]).run Tryz.prog w = .ok (.value (.int .i64 (firstIdx s n.toNat.toUInt8))) w := by
  rw [run_callFunc_extern (P := Tryz.prog) Tryz.func199 (by kernel_rfl) (by kernel_rfl) (by kernel_rfl) (e := Extern.BytealgIndexByte.indexByte) (by kernel_rfl), run_indexByte_string]
  rfl
set_option maxRecDepth 100000 in
theorem IndexByte_any (s : ByteArray) (n : Int) (w : World) :
    Calls Tryz.prog 84 #[.string s, .int .u8 n] w fun e w' => e = .returned (.int .i64 (firstIdx s n.toNat.toUInt8)) ∧ w = w' := by
  have hcall := call_indexByteString s n w
  go_enter Tryz.func84, Tryz.ntmps84
  go_wp2
  go_ret
  exact ⟨rfl, rfl⟩
set_option maxRecDepth 100000 in
set_option maxHeartbeats 400000 in
theorem has_any (s : ByteArray) (c : UInt8) (n : Int) (hn : n = c.toNat) (w : World) (hs : s.size ≤ maxLen) :
    Calls Tryz.prog 105 #[.string s, .int .u8 n] w fun e w' => e = .returned (.bool (hasB s c)) ∧ w = w' := by
  unfold maxLen at hs
  have HN := Lib.hid hn
  clear hn
  go_enter Tryz.func105, Tryz.ntmps105
  go_wp2
  go_loop [5] (fun i => ∃ k : Nat, k ≤ s.size ∧ i = .int .i64 k ∧ Hid (∀ j, j < k → byt s j ≠ c.toNat)) (fun i => s.size - (intOf i).toNat)
  case atStart => exact ⟨0, by omega, rfl, fun j hj => absurd hj (by omega)⟩
  case round =>
    obtain ⟨k, hk, rfl, HD⟩ := hrel
    by_cases hlt : k < s.size
    · have HB := Lib.hid (byt_get s k hlt)
      have hb' : s[k].toNat < 256 := UInt8.toNat_lt _
      by_cases he : byt s k = c.toNat
      · have HF := Lib.hid (hasB_true hlt he)
        have hq : (((s[k].toNat : Nat) : Int) == n) = true := by rw [HN.out, HB.out, he]; simp
        clear he
        go_wp2
        go_ret
        exact ⟨ret_b HF.out, rfl⟩
      · have hq : (((s[k].toNat : Nat) : Int) == n) = false := by rw [HN.out, HB.out, beq_eq_false_iff_ne]; omega
        have HE := Lib.hid he
        clear he
        go_wp2
        go_round
        case rel =>
          refine ⟨k + 1, by omega, by go_num, fun j hj => ?_⟩
          by_cases e : j = k
          · rw [e]; exact HE.out
          · exact HD.out j (by omega)
        case measure => simp [intOf]; omega
    · obtain rfl : k = s.size := by omega
      have HF := Lib.hid (hasB_false HD.out)
      go_wp2
      go_ret
      exact ⟨ret_b HF.out, rfl⟩
end Go.Proofs.YtaffgndickdbiaaGreatDoor
