/-
  Texts: Marked, Pen.
-/
import Derived.Lib.ConvBytes
import Derived.Test.YtaffgndickdbiaaGreatDoorU09
import Derived.Lib.Builder
import Derived.Lib.AppendStr
import Derived.Lib.UnsafeStr
set_option linter.unusedVariables false
set_option linter.unusedSimpArgs false
set_option linter.unusedSectionVars false
namespace Go.Creel
open Go.RowKit
def OwnM (t : TypeId) (w : World) (B : Nat) (v : Value) (l : List UInt8) : Prop :=
  (v = .slice none 0 0 ∧ l = []) ∨ ∃ g cap cur lo hi, v = .slice (some ⟨g, 0, none⟩) l.length cap ∧ B ≤ g ∧ w.heap[g]? = some (.cells cur t (lo, hi)) ∧ (hi ≤ lo ∨ cur.size ≤ lo) ∧ l.length ≤ cap ∧ cap ≤ maxLen ∧ cur.size = cap ∧ cur.toList.take l.length = l.map byteV
theorem OwnM.nil (t : TypeId) (w : World) (B : Nat) : OwnM t w B (.slice none 0 0) [] := .inl ⟨rfl, rfl⟩
theorem OwnBs.marked {t : TypeId} {w : World} {B : Nat} {v : Value} {l : List UInt8} (h : OwnBs t w B v l) : OwnM t w B v l := by
  rcases h.2 with ⟨rfl, h0⟩ | ⟨g, cap, cur, rfl, hbg, hg, hnc, hcm, hcs, htake⟩
  · exact .inl ⟨rfl, List.eq_nil_of_length_eq_zero h0⟩
  · exact .inr ⟨g, cap, cur, 0, 0, rfl, hbg, hg, .inl (Nat.le_refl _), hnc, hcm, by simpa using hcs, by simpa using htake⟩
theorem toList_len (s : ByteArray) : s.data.toList.length = s.size := by simp
theorem OwnM.conv (w : World) (t : TypeId) (s : ByteArray) (h : s.size ≤ maxLen) : OwnM t (Lib.bytesWorld w t s) w.heap.size (.slice (some ⟨w.heap.size, 0, none⟩) s.size (grownCap w s.size 0 t)) s.data.toList := by
  have hge := grownCap_ge w s.size 0 t
  have hcs : (Lib.bytesCells w t s).size = grownCap w s.size 0 t := by
    unfold Lib.bytesCells
    simp only [Array.size_append, Array.size_map, Array.size_replicate]
    have : s.data.size = s.size := rfl
    omega
  refine .inr ⟨w.heap.size, _, _, _, _, by rw [toList_len], Nat.le_refl _, Lib.bytesWorld_at_new w t s, .inr (Nat.le_refl _), by rw [toList_len]; exact hge, grownCap_le_maxLen w s.size 0 t h, hcs, ?_⟩
  unfold Lib.bytesCells
  rw [Array.toList_append, Array.toList_map]
  rw [show s.data.toList.length = (s.data.toList.map fun b => Value.int .u8 b.toNat).length by simp]
  exact List.take_left
theorem conv_below (w : World) (t : TypeId) (s : ByteArray) : Below w.heap.size w (Lib.bytesWorld w t s) :=
  ⟨rfl, rfl, rfl, by rw [Lib.bytesWorld_size]; omega, fun k hk => Lib.bytesWorld_at_old w t s k hk⟩
section
variable {t : TypeId} {w w' : World} {B B' : Nat} {v : Value} {l m : List UInt8}
theorem OwnM.below (h : OwnM t w B v l) (hb : Below w.heap.size w w') : OwnM t w' B v l := by
  rcases h with h | ⟨g, cap, cur, lo, hi, h1, h2, h3, h4⟩
  · exact .inl h
  · exact .inr ⟨g, cap, cur, lo, hi, h1, h2, (hb.block g (Array.getElem?_eq_some_iff.1 h3).1).trans h3, h4⟩
theorem OwnM.mono (h : OwnM t w B v l) (hb : B' ≤ B) : OwnM t w B' v l := by
  rcases h with h | ⟨g, cap, cur, lo, hi, h1, h2, h3⟩
  · exact .inl h
  · exact .inr ⟨g, cap, cur, lo, hi, h1, Nat.le_trans hb h2, h3⟩
theorem OwnM.lt (h : OwnM t w B v l) {k : Nat} (hk : v.ownBlock = some k) : B ≤ k ∧ k < w.heap.size := by
  rcases h with ⟨rfl, _⟩ | ⟨g, cap, cur, lo, hi, rfl, h2, h3, _⟩
  · cases hk
  · cases hk; exact ⟨h2, (Array.getElem?_eq_some_iff.1 h3).1⟩
theorem OwnM.form (h : OwnM t w B v l) : ∃ a cap, v = .slice a l.length cap ∧ cap ≤ maxLen := by
  rcases h with ⟨rfl, rfl⟩ | ⟨g, cap, cur, lo, hi, rfl, _, _, _, _, h6, _⟩
  · exact ⟨none, 0, rfl, by simp⟩
  · exact ⟨_, cap, rfl, h6⟩
theorem OwnM.slice {N : Nat} (h : OwnM t w B v l) (hN : l.length ≤ N) : SliceC N 1 ByteC w [v] l := by
  rcases h with ⟨rfl, rfl⟩ | ⟨g, cap, cur, lo, hi, rfl, _, hg, _, hnc, hcm, hcs, htake⟩
  · exact ⟨none, 0, rfl, by simp, by simp, by simp, fun _ => rfl, fun h => absurd h (by simp)⟩
  · refine ⟨some ⟨g, 0, none⟩, cap, rfl, hnc, hcm, hN, (fun h => by cases h), fun _ => ⟨g, 0, rfl, fun i hi => ⟨[byteV l[i]], rfl, fun j hj => ?_, rfl⟩⟩⟩
    obtain rfl : j = 0 := by omega
    simp only [Nat.zero_add, Nat.mul_one, Nat.add_zero]
    rw [cell_of_row w g i cur t _ hg]
    have e := congrArg (fun x => x[i]?) htake
    simp only [List.getElem?_take, hi, if_true, List.getElem?_map, List.getElem?_eq_getElem hi, Option.map_some] at e
    simpa using e
theorem heap_setCell_marked (w : World) (g i : Nat) (cs : Array Value) (t : TypeId) (fr : Nat × Nat) (v : Value) (hg : w.heap[g]? = some (.cells cs t fr)) :
    (w.setCell ⟨g, i, none⟩ v).heap[g]? = some (.cells (cs.setIfInBounds i v) t fr) := by
  simp [World.setCell, Array.getElem?_modify, hg]
theorem setCells_marked (g : Nat) {e : TypeId} {fr : Nat × Nat} : ∀ (vs : List Value) (o : Nat) (w : World) (cur : Array Value), w.heap[g]? = some (.cells cur e fr) → o + vs.length ≤ cur.size →
    ∃ cur' : Array Value, (w.setCells g o vs).heap[g]? = some (.cells cur' e fr) ∧ cur'.size = cur.size ∧ cur'.toList.take (o + vs.length) = cur.toList.take o ++ vs
  | [], o, w, cur, h, _ => ⟨cur, h, rfl, by simp⟩
  | v :: r, o, w, cur, h, hl => by
    have h1 := heap_setCell_marked w g o cur e fr v h
    obtain ⟨cur', a1, a2, a3⟩ := setCells_marked g r (o + 1) (w.setCell ⟨g, o, none⟩ v) _ h1 (by simp at hl ⊢; omega)
    refine ⟨cur', a1, by simpa using a2, ?_⟩
    have e1 : o + (v :: r).length = o + 1 + r.length := by simp; omega
    rw [e1, a3]
    have ho : o < cur.toList.length := by simp at hl ⊢; omega
    rw [Array.toList_setIfInBounds, List.take_succ_eq_append_getElem (by simpa using ho)]
    simp [List.take_set, List.getElem_set]
    exact List.set_eq_of_length_le (by simp; omega)
theorem src_str {P : Program} {w : World} {tx : TypeId} (hk : P.underlying tx = some .string) (s : ByteArray) : Src P 1 tx (.string s) s.data.toList.length (s.data.toList.map byteV) w := by
  rw [toList_len]; exact Src.ofString w hk s
end
def AppM (P : Program) (w : World) (t tx ty : TypeId) (v x : Value) (B : Nat) (e : TypeId) (l m : List UInt8) : Prop :=
  ∃ v' w', (Builtin.append_ #[t, tx] ty #[v, x]).run P w = .ok v' w' ∧ OwnM e w' B v' (l ++ m) ∧ w.grownBy w' v.ownBlock
theorem app_m {P : Program} (w : World) (t tx e ty : TypeId) (i : TypeInfo) (ht : P.underlying t = some (.slice e)) (hi : P.info? e = some i) (hz : i.zero = some (.int .u8 0)) (h1 : i.size = 1) (hb : i.bytes = 1)
    {B : Nat} {v x : Value} {l m : List UInt8} (hv : OwnM e w B v l) (hs : Src P 1 tx x m.length (m.map byteV) w) (hbound : l.length + m.length ≤ 140737488355328) (hB : B ≤ w.heap.size) : AppM P w t tx ty v x B e l m := by
  rcases hv with ⟨rfl, rfl⟩ | ⟨g, cap, cur, lo, hi', rfl, hbg, hg, hmk, hnc, hcm, hcs, htake⟩
  · obtain ⟨v', w', a1, a2, a3, _⟩ := app_src w t tx ty B e i (.int .u8 0) 1 1 ht hi hz h1 hb rfl (by decide) (.slice none 0 0) x 0 m.length [] (m.map byteV) (World.ownsRow_nil w B e 1) hs (by unfold maxLen; simp at hbound; omega) (by simp at hbound; omega) hB
    exact ⟨v', w', a1, (OwnBs.app (l := []) (m := m) (by simpa using a2)).marked, a3⟩
  · by_cases hroom : l.length + m.length ≤ cap
    · have hfz : ∀ j, j < cur.size → w.frozen? ⟨g, j, none⟩ = false := by
        intro j hj
        simp only [World.frozen?, hg]
        rcases hmk with h | h
        · simp; omega
        · simp; omega
      have hr := run_append_room_src (P := P) w t tx ty e i ht hi g 0 l.length cap x m.length (m.map byteV) (by rw [h1]; exact hs) hroom
        (fun j hj => by rw [h1, cell_of_row w g _ cur e _ hg, Nat.zero_add, Array.getElem?_eq_getElem (by simp at hj; omega)]; rfl) (fun j hj => by rw [h1]; exact hfz _ (by simp at hj; omega))
      rw [Nat.zero_add, h1, Nat.mul_one] at hr
      obtain ⟨cur', a1, a2, a3⟩ := setCells_marked g (m.map byteV) l.length w cur hg (by simp; omega)
      obtain ⟨m1, m2, m3, m4⟩ := setCells_meta g (m.map byteV) l.length w
      refine ⟨_, _, hr, .inr ⟨g, cap, cur', lo, hi', by rw [List.length_append], hbg, a1, by rw [a2]; exact hmk, by rw [List.length_append]; exact hroom, hcm, a2.trans hcs, ?_⟩, ⟨m1, m2, m3, by omega, fun k _ hk => setCells_other g (m.map byteV) _ w k (fun e => hk (by rw [e]; rfl))⟩⟩
      rw [List.length_append, List.map_append, ← htake]
      simpa using a3
    · have holds : ∀ j u, (l.map byteV)[j]? = some u → w.drew.cell? ((⟨g, 0, none⟩ : Addr).add j) = some u := by
        intro j u hu
        have hj : j < l.length := by
          rcases Nat.lt_or_ge j l.length with h | h
          · exact h
          · rw [List.getElem?_eq_none (by simpa using h)] at hu; cases hu
        have ea : (⟨g, 0, none⟩ : Addr).add j = ⟨g, j, none⟩ := by unfold Addr.add; split <;> simp_all
        rw [ea]
        show w.cell? ⟨g, j, none⟩ = some u
        rw [cell_of_row w g j cur e _ hg, ← hu, ← htake]
        simp [List.getElem?_take, hj]
      have hold := run_firstCells_some (P := P) w.drew i.size l.length ⟨g, 0, none⟩ l.length cap (l.map byteV) (by rw [h1]; simp) holds
      have hr := run_append_grow_src (P := P) w t tx ty e i (.int .u8 0) ht hi hz (some ⟨g, 0, none⟩) l.length cap (l.map byteV) hold x m.length (m.map byteV) (by rw [h1]; exact hs) (by omega) (by omega) (growslice_fits (by omega) (by rw [hb]; omega))
      have hgr := own_grown w B e 1 l.length m.length cap (.int .u8 0) (l.map byteV) (m.map byteV) rfl (by simp) (by simp) (by unfold maxLen; omega) (by omega) hB (some g)
      exact ⟨_, _, hr, (OwnBs.app hgr.1).marked, hgr.2⟩
theorem wpList_appM {P : Program} {w : World} {ops : Array Oper} {rest : List Oper} {o : Oper} {a : Act} {Q : Exit → Act → World → Prop} (hgd : o.guard = none) (s x : Operand) (t tx : TypeId)
    (ho : o.op = .call { callee := .builtin .append, args := #[s, x], argTypes := #[t, tx] }) (vs vx : Value) (hs : a.eval s = vs) (hx : a.eval x = vx) {B : Nat} {e : TypeId} {l m : List UInt8}
    (happ : ∀ ty, AppM P w t tx ty vs vx B e l m)
    (h : ∀ v' w', OwnM e w' B v' (l ++ m) → w.grownBy w' vs.ownBlock → wpList P ops Q rest (a.put o.dst v') w') : wpList P ops Q (o :: rest) a w := by
  obtain ⟨v', w', hr, h1, h2⟩ := happ o.type
  exact Lib.wpList_append_run w hgd s x t tx ho vs vx hs hx v' w' hr (h v' w' h1 h2)
theorem step_appM {P : Program} {w : World} {ops : Array Oper} {o : Oper} {a : Act} {K : Act → World → Prop} {Q : Exit → Act → World → Prop} {E : Prop} (hgd : o.guard = none) (s x : Operand) (t tx : TypeId)
    (ho : o.op = .call { callee := .builtin .append, args := #[s, x], argTypes := #[t, tx] }) (vs vx : Value) (hs : a.eval s = vs) (hx : a.eval x = vx) {B : Nat} {e : TypeId} {l m : List UInt8}
    (happ : ∀ ty, AppM P w t tx ty vs vx B e l m)
    (h : ∀ v' w', OwnM e w' B v' (l ++ m) → w.grownBy w' vs.ownBlock → K (a.put o.dst v') w') :
    if Region.wanted o (yielded ops a.tmps) = true then Oper.wp P o a w K Q else E := by
  obtain ⟨v', w', hr, h1, h2⟩ := happ o.type
  have hw : Region.wanted o (yielded ops a.tmps) = true := by simp [Region.wanted, hgd]
  rw [if_pos hw]
  unfold Oper.wp execOp
  simp only [ho, resolve, invoke, builtin, Sem.run_bind, Sem.run_pure, Result.andThen_ok, List.map_toArray, List.map_cons, List.map_nil, hs, hx, hr]
  exact h v' w' h1 h2
theorem OwnM.grown {t : TypeId} {w0 w w' : World} {B C : Nat} {v : Value} {l : List UInt8} (hb : Below B w0 w) (hg : w.grownBy w' v.ownBlock) (hv : OwnM t w C v l) (hB : B ≤ w.heap.size) (hC : B ≤ C) : Below B w0 w' :=
  hb.grown hg hB (fun k hk => Nat.le_trans hC (hv.lt hk).1)
open Go.RowKit
def PenIs (T e : TypeId) (B b : Nat) (q : Value) (bs : List UInt8) (k : Int) (w : World) : Prop :=
  B ≤ b ∧ ∃ v, w.heap[b]? = some (.cells #[q, v, .int .i64 k] T (0, 0)) ∧ OwnBs e w B v bs ∧ v.ownBlock ≠ some b
variable {T e : TypeId} {B b : Nat} {q : Value} {bs : List UInt8} {k : Int} {w : World}
theorem PenIs.lt (h : PenIs T e B b q bs k w) : b < w.heap.size := by
  obtain ⟨_, v, hb, _⟩ := h
  exact (Array.getElem?_eq_some_iff.1 hb).1
theorem ownBs_below {w w' : World} {v : Value} (h : OwnBs e w B v bs) (hb : Below w.heap.size w w') : OwnBs e w' B v bs := by
  refine ⟨h.1, ?_⟩
  rcases h.2 with h0 | ⟨g, cap, cur, hv, hbg, hg, r⟩
  · exact .inl h0
  · refine .inr ⟨g, cap, cur, hv, hbg, ?_, r⟩
    rw [hb.block g (Array.getElem?_eq_some_iff.1 hg).1]
    exact hg
theorem PenIs.below {w' : World} (h : PenIs T e B b q bs k w) (hw : Below w.heap.size w w') : PenIs T e B b q bs k w' := by
  have hlt := h.lt
  obtain ⟨hB, v, hb, ho, hne⟩ := h
  exact ⟨hB, v, (hw.block b hlt).trans hb, ownBs_below ho hw, hne⟩
theorem PenIs.used (h : PenIs T e B b q bs k w) (q' : Value) : PenIs T e B b q' bs k (w.setCell ⟨b, 0, none⟩ q') := by
  obtain ⟨hB, v, hb, ho, hne⟩ := h
  refine ⟨hB, v, ?_, ?_, hne⟩
  · simp [World.setCell, Array.getElem?_modify, hb]
  · refine World.ownsRow.kept (row := some b) ho ⟨rfl, rfl, rfl, by simp [World.setCell], fun k _ hk => Below.heap_setCell _ _ _ _ (fun e => hk (by simp [e]))⟩ (Or.inr hne)
theorem PenIs.wrong (h : PenIs T e B b q bs k w) (k' : Int) : PenIs T e B b q bs k' (w.setCell ⟨b, 2, none⟩ (.int .i64 k')) := by
  obtain ⟨hB, v, hb, ho, hne⟩ := h
  refine ⟨hB, v, ?_, ?_, hne⟩
  · simp [World.setCell, Array.getElem?_modify, hb]
  · refine World.ownsRow.kept (row := some b) ho ⟨rfl, rfl, rfl, by simp [World.setCell], fun k _ hk => Below.heap_setCell _ _ _ _ (fun e => hk (by simp [e]))⟩ (Or.inr hne)
theorem PenIs.buf {v v' : Value} {bs' : List UInt8} (hB : B ≤ b) (hb : w.heap[b]? = some (.cells #[q, v, .int .i64 k] T (0, 0))) (ho : OwnBs e w B v' bs') (hTe : T ≠ e) : PenIs T e B b q bs' k (w.setCell ⟨b, 1, none⟩ v') := by
  have hne := Lib.ownBlock_ne ho hb hTe
  refine ⟨hB, v', ?_, ?_, hne⟩
  · simp [World.setCell, Array.getElem?_modify, hb]
  · refine World.ownsRow.kept (row := some b) ho ⟨rfl, rfl, rfl, by simp [World.setCell], fun k _ hk => Below.heap_setCell _ _ _ _ (fun e => hk (by simp [e]))⟩ (Or.inr hne)
theorem PenIs.new (T e : TypeId) (w : World) : PenIs T e w.heap.size w.heap.size (.pointer none) [] 0 (w.alloc (.cells #[.pointer none, .slice none 0 0, .int .i64 0] T)) :=
  ⟨Nat.le_refl _, .slice none 0 0, heap_alloc_new w _, World.ownsRow_nil _ _ _ _, by simp [Value.ownBlock]⟩
theorem strCells_bytes (s : ByteArray) : Lib.strCells s = s.data.toList.map byteV := rfl
end Go.Creel
namespace Go.Proofs.YtaffgndickdbiaaGreatDoor
open Go.Creel Go.RowKit
theorem info_bu : (Tryz.prog.info? 124).map (·.size) = some 2 := by kernel_rfl
theorem lies_bu : liesAt Tryz.prog Tryz.prog.depth 129 (3 / Tryz.prog.cellsOf 129) 0 124 1 = true := by kernel_rfl
theorem cells_by : Tryz.prog.cellsOf 5 = 1 := by kernel_rfl
theorem info_by : (Tryz.prog.info? 5).map (fun i => (i.zero, i.size, i.bytes)) = some (some (.int .u8 0), 1, 1) := by kernel_rfl
set_option maxHeartbeats 1000000 in
set_option maxRecDepth 100000 in
theorem CopyUsed (b : Nat) (w : World) (h0 : w.cell? ⟨b, 0, none⟩ = some (.pointer (some ⟨b, 0, none⟩))) :
    Calls Tryz.prog 150 #[.pointer (some ⟨b, 0, none⟩)] w fun e w' => e = .returned (.tuple #[]) ∧ w' = w := by
  obtain ⟨j, hj, _⟩ := Option.map_eq_some_iff.1 info_bu
  go_enter Tryz.func150, Tryz.ntmps150
  go_wp2
  rw [Lib.run_neq_ptr_same w _ Tryz.underlying122 hj]
  go_wp2
  go_end0
  exact ⟨rfl, rfl⟩
set_option maxHeartbeats 1000000 in
set_option maxRecDepth 100000 in
theorem CopyFresh (b : Nat) (w : World) (h0 : w.cell? ⟨b, 0, none⟩ = some (.pointer none)) (hsh : w.shape? b = some (129, 3)) (hfz : w.frozen? ⟨b, 0, none⟩ = false) :
    Calls Tryz.prog 150 #[.pointer (some ⟨b, 0, none⟩)] w fun e w' => e = .returned (.tuple #[]) ∧ w' = w.setCell ⟨b, 0, none⟩ (.pointer (some ⟨b, 0, none⟩)) := by
  obtain ⟨j, hj, hjs⟩ := Option.map_eq_some_iff.1 info_bu
  go_enter Tryz.func150, Tryz.ntmps150
  go_wp2
  rw [Lib.run_to_unsafe w ⟨b, 0, none⟩ Tryz.underlying122 Tryz.underlying215 hj (by rw [hjs]; decide) hsh (Nat.zero_lt_succ 2)]
  simp only [Result.andThen]
  rw [Oper.upon_value]
  go_wp2
  rw [run_callFunc_extern Tryz.func201 (by kernel_rfl) (by kernel_rfl) (by kernel_rfl) (e := Extern.AbiNoEscape.same) (by kernel_rfl)]
  rw [Lib.run_noEscape]
  simp only [Result.andThen]
  rw [Oper.upon_value]
  go_wp2
  rw [Lib.run_from_unsafe w ⟨b, 0, none⟩ Tryz.underlying215 Tryz.underlying122 hj hsh lies_bu]
  simp only [Result.andThen]
  rw [Oper.upon_value]
  go_wp2
  go_end0
  exact ⟨rfl, rfl⟩
abbrev PenAt (B b : Nat) (q : Value) (bs : List UInt8) (k : Int) (w : World) : Prop := PenIs 129 5 B b q bs k w
def PenBe (B b : Nat) (bs : List UInt8) (k : Int) (w : World) : Prop := PenAt B b (.pointer none) bs k w ∨ PenAt B b (.pointer (some ⟨b, 0, none⟩)) bs k w
theorem Copy_any (B b : Nat) (bs : List UInt8) (k : Int) (w : World) (h : PenBe B b bs k w) :
    Calls Tryz.prog 150 #[.pointer (some ⟨b, 0, none⟩)] w fun e w' => e = .returned (.tuple #[]) ∧ PenAt B b (.pointer (some ⟨b, 0, none⟩)) bs k w' ∧ Below B w w' := by
  rcases h with h | h
  · have h' := h
    obtain ⟨hB, v, hb, ho, hne⟩ := h'
    refine (CopyFresh b w (by rw [Lib.cell_of_heap hb]; rfl) (by simp [World.shape?, hb]) (Lib.frozen_of_heap hb 0)).mono ?_
    rintro e w' ⟨rfl, rfl⟩
    exact ⟨rfl, h.used _, (Below.refl B w).setCell (p := ⟨b, 0, none⟩) hB _⟩
  · have h' := h
    obtain ⟨hB, v, hb, ho, hne⟩ := h'
    refine (CopyUsed b w (by rw [Lib.cell_of_heap hb]; rfl)).mono ?_
    rintro e w' ⟨rfl, rfl⟩
    exact ⟨rfl, h, Below.refl B _⟩
set_option maxHeartbeats 2000000 in
set_option maxRecDepth 100000 in
theorem WriteS_any (B b : Nat) (bs : List UInt8) (k : Int) (s : ByteArray) (w : World) (h : PenBe B b bs k w) (hlen : bs.length + s.size ≤ 140737488355328) (hBw : B ≤ w.heap.size) :
    Calls Tryz.prog 93 #[.pointer (some ⟨b, 0, none⟩), .string s] w fun e w' => e = .returned (.tuple #[.int .i64 s.size, .nilIface]) ∧ PenAt B b (.pointer (some ⟨b, 0, none⟩)) (bs ++ s.data.toList) k w' ∧ Below B w w' := by
  obtain ⟨i0, hi, hz0, hz1, hz2⟩ := info_parts info_by
  go_enter Tryz.func93, Tryz.ntmps93
  go_wp2_with fail
  refine (Copy_any B b bs k _ h).mono ?_
  rintro e w1 ⟨rfl, h1, hb1⟩
  obtain ⟨hB, v, hbk, hown, hne⟩ := h1
  have c0 : w1.cell? ⟨b, 0, none⟩ = some (.pointer (some ⟨b, 0, none⟩)) := by rw [Lib.cell_of_heap hbk]; rfl
  have c1 : w1.cell? ⟨b, 1, none⟩ = some v := by rw [Lib.cell_of_heap hbk]; rfl
  go_wp2_with (at_builtin; refine Lib.wpList_append_own_string _ rfl _ _ 24 9 rfl B 5 i0 Tryz.underlying24 Tryz.underlying9 hi hz0 hz1 hz2 _ _ _ rfl hown s rfl ?c3 ?c4 ?c5 ?_)
  case c3 => unfold maxLen; omega
  case c4 => exact hlen
  case c5 => have := hb1.size; omega
  intro v' w2 hown' hgrow _
  have hlt : b < w1.heap.size := (Array.getElem?_eq_some_iff.1 hbk).1
  have hb2 : w2.heap[b]? = some (.cells #[.pointer (some ⟨b, 0, none⟩), v, .int .i64 k] 129 (0, 0)) := by
    rw [hgrow.block b hlt (fun e => hne e.symm)]
    exact hbk
  have d0 : w2.cell? ⟨b, 0, none⟩ = some (.pointer (some ⟨b, 0, none⟩)) := by rw [Lib.cell_of_heap hb2]; rfl
  have d1 : w2.cell? ⟨b, 1, none⟩ = some v := by rw [Lib.cell_of_heap hb2]; rfl
  have f1 : w2.frozen? ⟨b, 1, none⟩ = false := Lib.frozen_of_heap hb2 1
  have ho2 : OwnBs 5 w2 B v' (bs ++ s.data.toList) := by
    have := hown'
    rw [strCells_bytes] at this
    unfold OwnBs
    rw [List.length_append, List.map_append]
    simpa using this
  obtain ⟨ao, n', cap, rfl⟩ : ∃ ao n' cap, v' = .slice ao n' cap := by
    rcases hown'.2 with ⟨hv, _⟩ | ⟨g, cap, cur, hv, _⟩
    · exact ⟨_, _, _, hv⟩
    · exact ⟨_, _, _, hv⟩
  go_wp2
  go_ret2
  refine ⟨rfl, ?_, ?_⟩
  · exact PenIs.buf hB hb2 ho2 (by decide)
  · exact (hb1.grown hgrow (by have := hb1.size; omega) (fun k hk => (World.ownsRow.lt hown k hk).1)).setCell (p := ⟨b, 1, none⟩) hB _
def PenB (B b : Nat) (p : Pen) (w : World) : Prop := PenBe B b p.1.data.toList p.2 w
theorem PenB.below {B b : Nat} {p : Pen} {w w' : World} (h : PenB B b p w) (hb : Below w.heap.size w w') : PenB B b p w' := h.elim (fun h => .inl (h.below hb)) (fun h => .inr (h.below hb))
theorem PenB.lt {B b : Nat} {p : Pen} {w : World} (h : PenB B b p w) : b < w.heap.size := h.elim (fun h => h.lt) (fun h => h.lt)
theorem PenB.new (w : World) : PenB w.heap.size w.heap.size (ByteArray.empty, 0) (w.alloc (.cells #[.pointer none, .slice none 0 0, .int .i64 0] 129)) := .inl (PenIs.new _ _ w)
theorem PenB.err {B b : Nat} {p : Pen} {w : World} (h : PenB B b p w) : w.cell? ⟨b, 2, none⟩ = some (.int .i64 p.2) ∧ w.frozen? ⟨b, 2, none⟩ = false ∧ B ≤ b := by
  rcases h with ⟨hB, v, hb, _⟩ | ⟨hB, v, hb, _⟩
  · exact ⟨by rw [Lib.cell_of_heap hb]; rfl, Lib.frozen_of_heap hb 2, hB⟩
  · exact ⟨by rw [Lib.cell_of_heap hb]; rfl, Lib.frozen_of_heap hb 2, hB⟩
set_option maxHeartbeats 2000000 in
set_option maxRecDepth 100000 in
theorem Put_any (B b : Nat) (p : Pen) (s : ByteArray) (e : Int) (w : World) (h : PenB B b p w) (hlen : p.1.size + s.size ≤ 1000000) (hBw : B ≤ w.heap.size) :
    Calls Tryz.prog 95 #[.pointer (some ⟨b, 0, none⟩), .string s, .int .i64 e] w fun x w' => x = .returned (.tuple #[]) ∧ PenB B b (penPut p (s, e)) w' ∧ Below B w w' := by
  obtain ⟨c2, f2, hB⟩ := h.err
  have hpl : p.1.data.toList.length = p.1.size := by simp
  by_cases h0 : p.2 = 0
  · have HP := Lib.hid (penPut_ok (x := (s, e)) h0)
    rw [h0] at c2
    have hw2 : PenBe B b p.1.data.toList e (w.setCell ⟨b, 2, none⟩ (.int .i64 e)) := h.elim (fun h => .inl (h.wrong e)) (fun h => .inr (h.wrong e))
    have HW := Lib.hid (WriteS_any B b p.1.data.toList e s _ hw2 (by rw [hpl]; omega) (by simpa using hBw))
    have HB0 := Lib.hid ((Below.refl B w).setCell (p := ⟨b, 2, none⟩) hB (.int .i64 e))
    clear h hw2
    go_enter Tryz.func95, Tryz.ntmps95
    go_wp2_with fail
    refine HW.out.mono ?_
    rintro x w1 ⟨rfl, h1, hb⟩
    have HB := Lib.hid (HB0.out.trans hb)
    have HQ := Lib.hid h1
    clear hb h1
    go_wp2
    go_end0
    refine ⟨rfl, ?_, HB.out⟩
    rw [HP.out]
    refine .inr ?_
    have := HQ.out
    rw [show (p.1 ++ s).data.toList = p.1.data.toList ++ s.data.toList by simp]
    exact this
  · have HP := Lib.hid (penPut_bad (x := (s, e)) h0)
    have hne : (p.2 == 0) = false := by rw [beq_eq_false_iff_ne]; exact h0
    have H := Lib.hid h
    clear h h0
    go_enter Tryz.func95, Tryz.ntmps95
    go_wp2
    go_end0
    exact ⟨rfl, by rw [HP.out]; exact H.out, Below.refl _ _⟩
set_option maxHeartbeats 2000000 in
set_option maxRecDepth 100000 in
theorem PenString_any (B b : Nat) (p : Pen) (w : World) (h : PenB B b p w) (h0 : p.1.size ≠ 0) (hlen : p.1.size ≤ 1000000) :
    Calls Tryz.prog 94 #[.pointer (some ⟨b, 0, none⟩)] w fun x w' => x = .returned (.string p.1) ∧ Below B w w' := by
  obtain ⟨q, hB, v, hbk, hown, hne⟩ : ∃ q, PenAt B b q p.1.data.toList p.2 w := by
    rcases h with h | h
    · exact ⟨_, h⟩
    · exact ⟨_, h⟩
  have hs : p.1.data.toList.length = p.1.size := by simp
  have he : (⟨p.1.data.toList.toArray⟩ : ByteArray) = p.1 := ofL_of p.1
  generalize hl : p.1.data.toList = l at *
  generalize p.1 = s at *
  have hl0 : l.length ≠ 0 := by omega
  have hln : l ≠ [] := fun e => hl0 (by rw [e]; rfl)
  obtain ⟨g, cap, cur, rfl, hbg, hg, hnc, hcm, hcs, htake⟩ : ∃ g cap cur, v = .slice (some ⟨g, 0, none⟩) l.length cap ∧ B ≤ g ∧ w.heap[g]? = some (.cells cur 5 (0, 0)) ∧ l.length ≤ cap ∧ cap ≤ maxLen ∧ cur.size = cap * 1 ∧ cur.toList.take (l.length * 1) = l.map byteV := by
    rcases hown.2 with ⟨_, hz⟩ | ⟨g, cap, cur, hv, r⟩
    · exact absurd hz hl0
    · exact ⟨g, cap, cur, hv, r⟩
  have c1 : w.drew.cell? ⟨b, 1, none⟩ = some (.slice (some ⟨g, 0, none⟩) l.length cap) := by
    have : w.drew.heap[b]? = some (.cells #[q, .slice (some ⟨g, 0, none⟩) l.length cap, .int .i64 p.2] 129 (0, 0)) := hbk
    rw [Lib.cell_of_heap this]; rfl
  have hSD : (Builtin.unsafeSliceData_ #[24] 171 #[.slice (some ⟨g, 0, none⟩) l.length cap]).run Tryz.prog w.drew = .ok (.pointer (some ⟨g, 0, none⟩)) w.drew :=
    Lib.run_unsafeSliceData_row _ _ _ _ _ _ (by omega)
  have hUS : (Builtin.unsafeString_ #[171, 3] 9 #[.pointer (some ⟨g, 0, none⟩), .int .i64 l.length]).run Tryz.prog w.drew = .ok (.string ⟨l.toArray⟩) (w.drew.freeze ⟨g, 0, none⟩ l.length) := by
    refine Lib.run_unsafeString_row w.drew 171 3 9 5 Tryz.underlying171 cells_by g cur.size (by have hg' : w.drew.heap[g]? = some (.cells cur 5 (0, 0)) := hg; simp [World.shape?, hg']) l hln (by omega) (by unfold maxLen at hcm; omega) ?_
    intro j x hx
    exact World.ownsRow.cells hown (g := g) rfl j (.int .u8 x.toNat) (by simp [hx, byteV])
  rw [he] at hUS
  have HBF := Lib.hid (Lib.below_freeze (Below.drew (Below.refl B w)) (p := ⟨g, 0, none⟩) hbg l.length)
  clear hown hne hbk hg htake hl he h hs
  go_enter Tryz.func94, Tryz.ntmps94
  go_wp2
  go_region
  all_goals (go_wp2; go_ret; exact ⟨rfl, HBF.out⟩)
end Go.Proofs.YtaffgndickdbiaaGreatDoor
