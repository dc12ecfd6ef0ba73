/-
  Texts: Marked, Atoi, UnpackSpec, RecSt, Pack.
-/
import Derived.Lib.ConvBytes
import Derived.Test.YtaffgndickdbiaaGreatDoorR17
set_option linter.unusedVariables false
set_option linter.unusedSimpArgs false
set_option linter.unusedSectionVars false
namespace Go.Creel
open Go.RowKit
def OwnM (t : TypeId) (w : World) (B : Nat) (v : Value) (l : List UInt8) : Prop :=
  (v = .slice none 0 0 ∧ l = []) ∨ ∃ g cap cur lo hi, v = .slice (some ⟨g, 0, none⟩) l.length cap ∧ B ≤ g ∧ w.heap[g]? = some (.cells cur t (lo, hi)) ∧ (hi ≤ lo ∨ cur.size ≤ lo) ∧ l.length ≤ cap ∧ cap ≤ maxLen ∧ cur.size = cap ∧ cur.toList.take l.length = l.map byteV
theorem OwnM.nil (t : TypeId) (w : World) (B : Nat) : OwnM t w B (.slice none 0 0) [] := .inl ⟨rfl, rfl⟩
theorem OwnBs.marked {t : TypeId} {w : World} {B : Nat} {v : Value} {l : List UInt8} (h : OwnBs t w B v l) : OwnM t w B v l := by
  rcases h.2 with ⟨rfl, h0⟩ | ⟨g, cap, cur, rfl, hbg, hg, hnc, hcm, hcs, htake⟩
  · exact .inl ⟨rfl, List.eq_nil_of_length_eq_zero h0⟩
  · exact .inr ⟨g, cap, cur, 0, 0, rfl, hbg, hg, .inl (Nat.le_refl _), hnc, hcm, by simpa using hcs, by simpa using htake⟩
theorem toList_len (s : ByteArray) : s.data.toList.length = s.size := by simp
theorem OwnM.conv (w : World) (t : TypeId) (s : ByteArray) (h : s.size ≤ maxLen) : OwnM t (Lib.bytesWorld w t s) w.heap.size (.slice (some ⟨w.heap.size, 0, none⟩) s.size (grownCap w s.size 0 t)) s.data.toList := by
  have hge := grownCap_ge w s.size 0 t
  have hcs : (Lib.bytesCells w t s).size = grownCap w s.size 0 t := by
    unfold Lib.bytesCells
    simp only [Array.size_append, Array.size_map, Array.size_replicate]
    have : s.data.size = s.size := rfl
    omega
  refine .inr ⟨w.heap.size, _, _, _, _, by rw [toList_len], Nat.le_refl _, Lib.bytesWorld_at_new w t s, .inr (Nat.le_refl _), by rw [toList_len]; exact hge, grownCap_le_maxLen w s.size 0 t h, hcs, ?_⟩
  unfold Lib.bytesCells
  rw [Array.toList_append, Array.toList_map]
  rw [show s.data.toList.length = (s.data.toList.map fun b => Value.int .u8 b.toNat).length by simp]
  exact List.take_left
theorem conv_below (w : World) (t : TypeId) (s : ByteArray) : Below w.heap.size w (Lib.bytesWorld w t s) :=
  ⟨rfl, rfl, rfl, by rw [Lib.bytesWorld_size]; omega, fun k hk => Lib.bytesWorld_at_old w t s k hk⟩
section
variable {t : TypeId} {w w' : World} {B B' : Nat} {v : Value} {l m : List UInt8}
theorem OwnM.below (h : OwnM t w B v l) (hb : Below w.heap.size w w') : OwnM t w' B v l := by
  rcases h with h | ⟨g, cap, cur, lo, hi, h1, h2, h3, h4⟩
  · exact .inl h
  · exact .inr ⟨g, cap, cur, lo, hi, h1, h2, (hb.block g (Array.getElem?_eq_some_iff.1 h3).1).trans h3, h4⟩
theorem OwnM.mono (h : OwnM t w B v l) (hb : B' ≤ B) : OwnM t w B' v l := by
  rcases h with h | ⟨g, cap, cur, lo, hi, h1, h2, h3⟩
  · exact .inl h
  · exact .inr ⟨g, cap, cur, lo, hi, h1, Nat.le_trans hb h2, h3⟩
theorem OwnM.lt (h : OwnM t w B v l) {k : Nat} (hk : v.ownBlock = some k) : B ≤ k ∧ k < w.heap.size := by
  rcases h with ⟨rfl, _⟩ | ⟨g, cap, cur, lo, hi, rfl, h2, h3, _⟩
  · cases hk
  · cases hk; exact ⟨h2, (Array.getElem?_eq_some_iff.1 h3).1⟩
theorem OwnM.form (h : OwnM t w B v l) : ∃ a cap, v = .slice a l.length cap ∧ cap ≤ maxLen := by
  rcases h with ⟨rfl, rfl⟩ | ⟨g, cap, cur, lo, hi, rfl, _, _, _, _, h6, _⟩
  · exact ⟨none, 0, rfl, by simp⟩
  · exact ⟨_, cap, rfl, h6⟩
theorem OwnM.slice {N : Nat} (h : OwnM t w B v l) (hN : l.length ≤ N) : SliceC N 1 ByteC w [v] l := by
  rcases h with ⟨rfl, rfl⟩ | ⟨g, cap, cur, lo, hi, rfl, _, hg, _, hnc, hcm, hcs, htake⟩
  · exact ⟨none, 0, rfl, by simp, by simp, by simp, fun _ => rfl, fun h => absurd h (by simp)⟩
  · refine ⟨some ⟨g, 0, none⟩, cap, rfl, hnc, hcm, hN, (fun h => by cases h), fun _ => ⟨g, 0, rfl, fun i hi => ⟨[byteV l[i]], rfl, fun j hj => ?_, rfl⟩⟩⟩
    obtain rfl : j = 0 := by omega
    simp only [Nat.zero_add, Nat.mul_one, Nat.add_zero]
    rw [cell_of_row w g i cur t _ hg]
    have e := congrArg (fun x => x[i]?) htake
    simp only [List.getElem?_take, hi, if_true, List.getElem?_map, List.getElem?_eq_getElem hi, Option.map_some] at e
    simpa using e
theorem heap_setCell_marked (w : World) (g i : Nat) (cs : Array Value) (t : TypeId) (fr : Nat × Nat) (v : Value) (hg : w.heap[g]? = some (.cells cs t fr)) :
    (w.setCell ⟨g, i, none⟩ v).heap[g]? = some (.cells (cs.setIfInBounds i v) t fr) := by
  simp [World.setCell, Array.getElem?_modify, hg]
theorem setCells_marked (g : Nat) {e : TypeId} {fr : Nat × Nat} : ∀ (vs : List Value) (o : Nat) (w : World) (cur : Array Value), w.heap[g]? = some (.cells cur e fr) → o + vs.length ≤ cur.size →
    ∃ cur' : Array Value, (w.setCells g o vs).heap[g]? = some (.cells cur' e fr) ∧ cur'.size = cur.size ∧ cur'.toList.take (o + vs.length) = cur.toList.take o ++ vs
  | [], o, w, cur, h, _ => ⟨cur, h, rfl, by simp⟩
  | v :: r, o, w, cur, h, hl => by
    have h1 := heap_setCell_marked w g o cur e fr v h
    obtain ⟨cur', a1, a2, a3⟩ := setCells_marked g r (o + 1) (w.setCell ⟨g, o, none⟩ v) _ h1 (by simp at hl ⊢; omega)
    refine ⟨cur', a1, by simpa using a2, ?_⟩
    have e1 : o + (v :: r).length = o + 1 + r.length := by simp; omega
    rw [e1, a3]
    have ho : o < cur.toList.length := by simp at hl ⊢; omega
    rw [Array.toList_setIfInBounds, List.take_succ_eq_append_getElem (by simpa using ho)]
    simp [List.take_set, List.getElem_set]
    exact List.set_eq_of_length_le (by simp; omega)
theorem src_str {P : Program} {w : World} {tx : TypeId} (hk : P.underlying tx = some .string) (s : ByteArray) : Src P 1 tx (.string s) s.data.toList.length (s.data.toList.map byteV) w := by
  rw [toList_len]; exact Src.ofString w hk s
end
def AppM (P : Program) (w : World) (t tx ty : TypeId) (v x : Value) (B : Nat) (e : TypeId) (l m : List UInt8) : Prop :=
  ∃ v' w', (Builtin.append_ #[t, tx] ty #[v, x]).run P w = .ok v' w' ∧ OwnM e w' B v' (l ++ m) ∧ w.grownBy w' v.ownBlock
theorem app_m {P : Program} (w : World) (t tx e ty : TypeId) (i : TypeInfo) (ht : P.underlying t = some (.slice e)) (hi : P.info? e = some i) (hz : i.zero = some (.int .u8 0)) (h1 : i.size = 1) (hb : i.bytes = 1)
    {B : Nat} {v x : Value} {l m : List UInt8} (hv : OwnM e w B v l) (hs : Src P 1 tx x m.length (m.map byteV) w) (hbound : l.length + m.length ≤ 140737488355328) (hB : B ≤ w.heap.size) : AppM P w t tx ty v x B e l m := by
  rcases hv with ⟨rfl, rfl⟩ | ⟨g, cap, cur, lo, hi', rfl, hbg, hg, hmk, hnc, hcm, hcs, htake⟩
  · obtain ⟨v', w', a1, a2, a3, _⟩ := app_src w t tx ty B e i (.int .u8 0) 1 1 ht hi hz h1 hb rfl (by decide) (.slice none 0 0) x 0 m.length [] (m.map byteV) (World.ownsRow_nil w B e 1) hs (by unfold maxLen; simp at hbound; omega) (by simp at hbound; omega) hB
    exact ⟨v', w', a1, (OwnBs.app (l := []) (m := m) (by simpa using a2)).marked, a3⟩
  · by_cases hroom : l.length + m.length ≤ cap
    · have hfz : ∀ j, j < cur.size → w.frozen? ⟨g, j, none⟩ = false := by
        intro j hj
        simp only [World.frozen?, hg]
        rcases hmk with h | h
        · simp; omega
        · simp; omega
      have hr := run_append_room_src (P := P) w t tx ty e i ht hi g 0 l.length cap x m.length (m.map byteV) (by rw [h1]; exact hs) hroom
        (fun j hj => by rw [h1, cell_of_row w g _ cur e _ hg, Nat.zero_add, Array.getElem?_eq_getElem (by simp at hj; omega)]; rfl) (fun j hj => by rw [h1]; exact hfz _ (by simp at hj; omega))
      rw [Nat.zero_add, h1, Nat.mul_one] at hr
      obtain ⟨cur', a1, a2, a3⟩ := setCells_marked g (m.map byteV) l.length w cur hg (by simp; omega)
      obtain ⟨m1, m2, m3, m4⟩ := setCells_meta g (m.map byteV) l.length w
      refine ⟨_, _, hr, .inr ⟨g, cap, cur', lo, hi', by rw [List.length_append], hbg, a1, by rw [a2]; exact hmk, by rw [List.length_append]; exact hroom, hcm, a2.trans hcs, ?_⟩, ⟨m1, m2, m3, by omega, fun k _ hk => setCells_other g (m.map byteV) _ w k (fun e => hk (by rw [e]; rfl))⟩⟩
      rw [List.length_append, List.map_append, ← htake]
      simpa using a3
    · have holds : ∀ j u, (l.map byteV)[j]? = some u → w.drew.cell? ((⟨g, 0, none⟩ : Addr).add j) = some u := by
        intro j u hu
        have hj : j < l.length := by
          rcases Nat.lt_or_ge j l.length with h | h
          · exact h
          · rw [List.getElem?_eq_none (by simpa using h)] at hu; cases hu
        have ea : (⟨g, 0, none⟩ : Addr).add j = ⟨g, j, none⟩ := by unfold Addr.add; split <;> simp_all
        rw [ea]
        show w.cell? ⟨g, j, none⟩ = some u
        rw [cell_of_row w g j cur e _ hg, ← hu, ← htake]
        simp [List.getElem?_take, hj]
      have hold := run_firstCells_some (P := P) w.drew i.size l.length ⟨g, 0, none⟩ l.length cap (l.map byteV) (by rw [h1]; simp) holds
      have hr := run_append_grow_src (P := P) w t tx ty e i (.int .u8 0) ht hi hz (some ⟨g, 0, none⟩) l.length cap (l.map byteV) hold x m.length (m.map byteV) (by rw [h1]; exact hs) (by omega) (by omega) (growslice_fits (by omega) (by rw [hb]; omega))
      have hgr := own_grown w B e 1 l.length m.length cap (.int .u8 0) (l.map byteV) (m.map byteV) rfl (by simp) (by simp) (by unfold maxLen; omega) (by omega) hB (some g)
      exact ⟨_, _, hr, (OwnBs.app hgr.1).marked, hgr.2⟩
theorem wpList_appM {P : Program} {w : World} {ops : Array Oper} {rest : List Oper} {o : Oper} {a : Act} {Q : Exit → Act → World → Prop} (hgd : o.guard = none) (s x : Operand) (t tx : TypeId)
    (ho : o.op = .call { callee := .builtin .append, args := #[s, x], argTypes := #[t, tx] }) (vs vx : Value) (hs : a.eval s = vs) (hx : a.eval x = vx) {B : Nat} {e : TypeId} {l m : List UInt8}
    (happ : ∀ ty, AppM P w t tx ty vs vx B e l m)
    (h : ∀ v' w', OwnM e w' B v' (l ++ m) → w.grownBy w' vs.ownBlock → wpList P ops Q rest (a.put o.dst v') w') : wpList P ops Q (o :: rest) a w := by
  obtain ⟨v', w', hr, h1, h2⟩ := happ o.type
  exact Lib.wpList_append_run w hgd s x t tx ho vs vx hs hx v' w' hr (h v' w' h1 h2)
theorem step_appM {P : Program} {w : World} {ops : Array Oper} {o : Oper} {a : Act} {K : Act → World → Prop} {Q : Exit → Act → World → Prop} {E : Prop} (hgd : o.guard = none) (s x : Operand) (t tx : TypeId)
    (ho : o.op = .call { callee := .builtin .append, args := #[s, x], argTypes := #[t, tx] }) (vs vx : Value) (hs : a.eval s = vs) (hx : a.eval x = vx) {B : Nat} {e : TypeId} {l m : List UInt8}
    (happ : ∀ ty, AppM P w t tx ty vs vx B e l m)
    (h : ∀ v' w', OwnM e w' B v' (l ++ m) → w.grownBy w' vs.ownBlock → K (a.put o.dst v') w') :
    if Region.wanted o (yielded ops a.tmps) = true then Oper.wp P o a w K Q else E := by
  obtain ⟨v', w', hr, h1, h2⟩ := happ o.type
  have hw : Region.wanted o (yielded ops a.tmps) = true := by simp [Region.wanted, hgd]
  rw [if_pos hw]
  unfold Oper.wp execOp
  simp only [ho, resolve, invoke, builtin, Sem.run_bind, Sem.run_pure, Result.andThen_ok, List.map_toArray, List.map_cons, List.map_nil, hs, hx, hr]
  exact h v' w' h1 h2
theorem OwnM.grown {t : TypeId} {w0 w w' : World} {B C : Nat} {v : Value} {l : List UInt8} (hb : Below B w0 w) (hg : w.grownBy w' v.ownBlock) (hv : OwnM t w C v l) (hB : B ≤ w.heap.size) (hC : B ≤ C) : Below B w0 w' :=
  hb.grown hg hB (fun k hk => Nat.le_trans hC (hv.lt hk).1)
open Go.RowKit
noncomputable def atoiV (s : ByteArray) : Int := match Lib.atoiAll s.data.toList with
  | .ok v => v
  | .range => Lib.atoiSat s.data.toList
  | _ => 0
def ErrAt (w : World) (g : Nat) : Prop := ∃ ev, w.cell? ⟨g, 0, none⟩ = some ev ∧ (ev = .nilIface ∨ ∃ te pe, ev = .iface te pe)
theorem ErrAt.below {w w' : World} {g : Nat} (h : ErrAt w g) (hb : Below w.heap.size w w') : ErrAt w' g := by
  obtain ⟨ev, h1, h2⟩ := h
  exact ⟨ev, (hb.cell (p := ⟨g, 0, none⟩) (World.block_lt_of_cell? w _ h1)).trans h1, h2⟩
def textOf (l : List Rec) (key s : ByteArray) : ByteArray := if (recFind l key).2 = true then (recFind l key).1 else s
noncomputable def numOf (l : List Rec) (key : ByteArray) (n : Int) : Int := if (recFind l key).2 = true then atoiV (recFind l key).1 else n
end Go.Creel
namespace Go.Proofs.YtaffgndickdbiaaGreatDoor
open Go.Creel Go.RowKit
def ErrsOk (w : World) : Prop := ErrAt w 0 ∧ ErrAt w 1
theorem ErrsOk.below {w w' : World} (h : ErrsOk w) (hb : Below w.heap.size w w') : ErrsOk w' := ⟨h.1.below hb, h.2.below hb⟩
theorem Atoi_any (s : ByteArray) (w : World) (hs : s.size ≤ 140737488355328) (hE : ErrsOk w) :
    Calls Tryz.prog 57 #[.string s] w fun e w' => (∃ ev, e = .returned (.tuple #[.int .i64 (atoiV s), ev])) ∧ Below w.heap.size w w' := by
  obtain ⟨⟨e0, h0, k0⟩, ⟨e1, h1, k1⟩⟩ := hE
  unfold atoiV
  cases h : Lib.atoiAll s.data.toList with
  | ok v =>
    refine (Tryz.strconv_Atoi_ok s (by omega) v h w).mono ?_
    rintro e w' ⟨rfl, hw⟩
    refine ⟨⟨_, rfl⟩, ?_⟩
    rcases hw with rfl | ⟨t, rfl⟩
    · exact Below.refl _ _
    · exact conv_below w _ t
  | range =>
    refine (Tryz.strconv_Atoi_range s (by omega) h e1 w h1 k1).mono ?_
    rintro e w' ⟨N, rfl, _, _, hb⟩
    exact ⟨⟨_, rfl⟩, hb⟩
  | _ =>
    refine (Tryz.strconv_Atoi_syntax s (by omega) (fun v e => by rw [h] at e; cases e) (fun e => by rw [h] at e; cases e) e0 w h0 k0).mono ?_
    rintro e w' ⟨N, rfl, _, _, hb⟩
    exact ⟨⟨_, rfl⟩, hb⟩
set_option maxRecDepth 100000 in
theorem TextU_any (key s : ByteArray) (bl : Nat) (vl : Value) (l : List Rec) (w : World) (hc : w.cell? ⟨bl, 0, none⟩ = some vl) (hS : SliceC maxLen 2 (RecC maxLen) w [vl] l) :
    Calls Tryz.prog 120 #[.string key, .string s, .pointer (some ⟨bl, 0, none⟩)] w fun e w' => e = .returned (.string (textOf l key s)) ∧ Below w.heap.size w w' := by
  have HFN := Lib.hid (Find_any (N := maxLen) vl l key w hS)
  have HT : Hid (∀ p : ByteArray × Bool, recFind l key = p → textOf l key s = if p.2 = true then p.1 else s) := Lib.hid (fun p h => by subst h; rfl)
  have HT2 := Lib.hid (HT.out _ rfl)
  generalize recFind l key = p at *
  obtain ⟨p1, p2⟩ := p
  clear hS HT
  cases p2 with
  | true =>
    go_enter Tryz.func120, Tryz.ntmps120
    go_wp2_with fail
    refine HFN.out.mono ?_
    rintro e w1 ⟨rfl, hb⟩
    have HB := Lib.hid hb
    clear hb
    go_wp2
    go_ret
    exact ⟨by rw [HT2.out]; rfl, HB.out⟩
  | false =>
    go_enter Tryz.func120, Tryz.ntmps120
    go_wp2_with fail
    refine HFN.out.mono ?_
    rintro e w1 ⟨rfl, hb⟩
    have HB := Lib.hid hb
    clear hb
    go_wp2
    go_ret
    exact ⟨by rw [HT2.out]; rfl, HB.out⟩
set_option maxRecDepth 100000 in
theorem NumU_any (key : ByteArray) (n : Int) (bl : Nat) (vl : Value) (l : List Rec) (w : World) (hc : w.cell? ⟨bl, 0, none⟩ = some vl) (hS : SliceC maxLen 2 (RecC maxLen) w [vl] l) (hE : ErrsOk w) (hsz : (recFind l key).1.size ≤ 140737488355328) :
    Calls Tryz.prog 122 #[.string key, .int .i64 n, .pointer (some ⟨bl, 0, none⟩)] w fun e w' => e = .returned (.int .i64 (numOf l key n)) ∧ Below w.heap.size w w' := by
  have HFN := Lib.hid (Find_any (N := maxLen) vl l key w hS)
  have HE := Lib.hid hE
  have HT : Hid (∀ p : ByteArray × Bool, recFind l key = p → numOf l key n = if p.2 = true then atoiV p.1 else n) := Lib.hid (fun p h => by subst h; rfl)
  have HT2 := Lib.hid (HT.out _ rfl)
  generalize recFind l key = p at *
  obtain ⟨p1, p2⟩ := p
  simp only at hsz
  clear hS HT hE
  cases p2 with
  | true =>
    go_enter Tryz.func122, Tryz.ntmps122
    go_wp2_with fail
    refine HFN.out.mono ?_
    rintro e w1 ⟨rfl, hb⟩
    have HB := Lib.hid hb
    clear hb
    go_wp2_with fail
    refine (Atoi_any p1 _ hsz (HE.out.below HB.out)).mono ?_
    rintro e w2 ⟨⟨ev, rfl⟩, hb⟩
    have HB2 := Lib.hid (HB.out.trans (hb.mono HB.out.size))
    clear hb
    go_wp2
    go_ret
    exact ⟨by rw [HT2.out]; rfl, HB2.out⟩
  | false =>
    go_enter Tryz.func122, Tryz.ntmps122
    go_wp2_with fail
    refine HFN.out.mono ?_
    rintro e w1 ⟨rfl, hb⟩
    have HB := Lib.hid hb
    clear hb
    go_wp2
    go_ret
    exact ⟨by rw [HT2.out]; rfl, HB.out⟩
end Go.Proofs.YtaffgndickdbiaaGreatDoor
namespace Go.Creel
open Go.RowKit
def kindOfT (c : UInt8) : Int := if c = 48 then 1 else if c = 53 then 2 else if c = 50 then 3 else if c = 49 then 4 else 0
noncomputable def timeR (l : List Rec) (t : Int) : Int × Int :=
  if (recFind l kMtime).2 = true then ((timeAns (recFind l kMtime).1.data.toList (rawP (recFind l kMtime).1.data.toList)).1, (timeAns (recFind l kMtime).1.data.toList (rawP (recFind l kMtime).1.data.toList)).2.1) else (t, 0)
noncomputable def unpackOf (h : HeadN) (l : List Rec) (da : Option Addr) (dcap : Nat) (d : List UInt8) : Ent :=
  ⟨textOf l kPath (cutOne h.px h.nm).1, kindOfT h.typ, textOf l kLink h.lk, ⟨h.mode, numOf l kUid h.uid, numOf l kGid h.gid, textOf l kUname h.user, textOf l kGname h.group, (timeR l h.time).1, (timeR l h.time).2⟩, da, dcap, d⟩
theorem recFind_small {N : Nat} : ∀ {l : List Rec} (key : ByteArray), (∀ r ∈ l, r.key.size ≤ N ∧ r.value.size ≤ N) → (recFind l key).1.size ≤ N
  | [], key, _ => by simp [recFind]
  | r :: t, key, h => by
    unfold recFind
    split
    · exact (h r (by simp)).2
    · exact recFind_small key (fun x hx => h x (by simp [hx]))
theorem memBytes_place (h : HeadN) (l : List Rec) (da da' : Option Addr) (dcap dcap' : Nat) (d : List UInt8) : memBytes (unpackOf h l da dcap d) = memBytes (unpackOf h l da' dcap' d) := rfl
def entNone : Ent := ⟨ByteArray.empty, 0, ByteArray.empty, ⟨0, 0, 0, ByteArray.empty, ByteArray.empty, 0, 0⟩, none, 0, []⟩
open Classical in
noncomputable def memEnd (b : List UInt8) (n : Nat) (h : HeadN) (l : List Rec) (d : List UInt8) : Ent × Int × Int :=
  if memBytes (unpackOf h l none 0 d) = (b.take n, 0) then (unpackOf h l none 0 d, n, 0) else (entNone, 0, 3)
noncomputable def memOf (b : List UInt8) : Ent × Int × Int :=
  if ¬ (blockOf b).2.2.2 = 0 then (entNone, 0, (blockOf b).2.2.2)
  else if ¬ (blockOf b).1.typ = 120 then memEnd b (b.length - (blockOf b).2.2.1.length) (blockOf b).1 [] (blockOf b).2.1
  else if ¬ (paxOf (ofL (blockOf b).2.1)).2 = 0 then (entNone, 0, (paxOf (ofL (blockOf b).2.1)).2)
  else if ¬ (blockOf (blockOf b).2.2.1).2.2.2 = 0 then (entNone, 0, (blockOf (blockOf b).2.2.1).2.2.2)
  else memEnd b (b.length - (blockOf (blockOf b).2.2.1).2.2.1.length) (blockOf (blockOf b).2.2.1).1 (paxOf (ofL (blockOf b).2.1)).1 (blockOf (blockOf b).2.2.1).2.1
open Go.RowKit
theorem ownsRow_elsewhere {w : World} {B size n b j : Nat} {t : TypeId} {v : Value} {xs : List Value} (u : Value) (h : w.ownsRow B t size v n xs) (hne : v.ownBlock ≠ some b) : (w.setCell ⟨b, j, none⟩ u).ownsRow B t size v n xs := by
  refine ⟨h.1, ?_⟩
  rcases h.2 with h0 | ⟨g, cap, cur, rfl, hbg, hg, r⟩
  · exact .inl h0
  · refine .inr ⟨g, cap, cur, rfl, hbg, ?_, r⟩
    rw [heap_setCell_other w ⟨b, j, none⟩ g u (fun e => hne (by rw [e]; rfl))]
    exact hg
theorem ownsRow_form2 {w : World} {B size n : Nat} {t : TypeId} {v : Value} {xs : List Value} (h : w.ownsRow B t size v (n + 1) xs) : ∃ g cap, v = .slice (some ⟨g, 0, none⟩) (n + 1) cap := by
  rcases h.2 with ⟨_, h0⟩ | ⟨g, cap, cur, rfl, _⟩
  · omega
  · exact ⟨g, cap, rfl⟩
structure RecSt (tR tP : TypeId) (w0 w : World) (b : Nat) (cs : Array Value) (v : Value) (l : List Rec) : Prop where
  row : w.heap[b]? = some (.cells cs tP (0, 0))
  own : OwnRecs tR w (b + 1) v l
  low : w0.heap.size ≤ b
  bel : Below w0.heap.size w0 w
section
variable {tR tP : TypeId} {w0 w w' w4 : World} {b : Nat} {cs : Array Value} {v v4 : Value} {l : List Rec}
theorem RecSt.lt (h : RecSt tR tP w0 w b cs v l) : b < w.heap.size := (Array.getElem?_eq_some_iff.1 h.row).1
theorem RecSt.below (h : RecSt tR tP w0 w b cs v l) (hb : Below w.heap.size w w') : RecSt tR tP w0 w' b cs v l :=
  ⟨(hb.block b h.lt).trans h.row, h.own.below hb, h.low, h.bel.trans (hb.mono h.bel.size)⟩
theorem RecSt.cell (h : RecSt tR tP w0 w b cs v l) (j : Nat) : w.cell? ⟨b, j, none⟩ = cs[j]? := cell_of_row w b j cs tP (0, 0) h.row
theorem RecSt.free (h : RecSt tR tP w0 w b cs v l) (j : Nat) : w.frozen? ⟨b, j, none⟩ = false := frozen_of_row w b j cs tP h.row
theorem RecSt.ne (h : RecSt tR tP w0 w b cs v l) : v.ownBlock ≠ some b := fun e => by have := (World.ownsRow.lt h.own b e).1; omega
theorem RecSt.row4 (h : RecSt tR tP w0 w b cs v l) (hg : w.grownBy w4 v.ownBlock) : w4.heap[b]? = some (.cells cs tP (0, 0)) :=
  (by obtain ⟨a1, a2, a3, a4, a5⟩ := hg; exact (a5 b h.lt (fun e => h.ne e.symm)).trans h.row)
theorem RecSt.cell4 (h : RecSt tR tP w0 w b cs v l) (hg : w.grownBy w4 v.ownBlock) (j : Nat) : w4.cell? ⟨b, j, none⟩ = cs[j]? := cell_of_row w4 b j cs tP (0, 0) (h.row4 hg)
theorem RecSt.free4 (h : RecSt tR tP w0 w b cs v l) (hg : w.grownBy w4 v.ownBlock) (j : Nat) : w4.frozen? ⟨b, j, none⟩ = false := frozen_of_row w4 b j cs tP (h.row4 hg)
theorem RecSt.put (h : RecSt tR tP w0 w b cs v l) (j : Nat) (u : Value) {cs' : Array Value} (e : cs.setIfInBounds j u = cs') : RecSt tR tP w0 (w.setCell ⟨b, j, none⟩ u) b cs' v l := by
  subst e
  exact ⟨heap_setCell_same w b j _ tP _ h.row, ownsRow_elsewhere _ h.own h.ne, h.low, h.bel.setCell (p := ⟨b, j, none⟩) h.low u⟩
theorem RecSt.say (h : RecSt tR tP w0 w b cs v l) (j : Nat) {r : Rec} (ho : w4.ownsRow (b + 1) tR 2 v4 (l.length + 1) (l.flatMap Rec.cl ++ [r].flatMap Rec.cl)) (hg : w.grownBy w4 v.ownBlock) {cs' : Array Value} (e : cs.setIfInBounds j v4 = cs') :
    RecSt tR tP w0 (w4.setCell ⟨b, j, none⟩ v4) b cs' v4 (l ++ [r]) := by
  subst e
  have own4 : OwnRecs tR w4 (b + 1) v4 (l ++ [r]) := OwnRecs.app (m := [r]) ho
  have hne4 : v4.ownBlock ≠ some b := fun e => by have := (World.ownsRow.lt own4 b e).1; omega
  refine ⟨heap_setCell_same w4 b j _ tP _ (h.row4 hg), ownsRow_elsewhere _ own4 hne4, h.low, ?_⟩
  refine Below.setCell ?_ (p := ⟨b, j, none⟩) h.low v4
  exact h.bel.grown hg h.bel.size (fun k hk => by have := (World.ownsRow.lt h.own k hk).1; have := h.low; omega)
theorem RecSt.since {wx : World} (h : RecSt tR tP wx w b cs v l) (hb : Below w0.heap.size w0 wx) : RecSt tR tP w0 w b cs v l :=
  ⟨h.row, h.own, Nat.le_trans hb.size h.low, hb.trans (h.bel.mono hb.size)⟩
end
abbrev pcells (h : HeadN) (v : Value) : Array Value := #[.string h.nm, .string h.px, .string h.lk, .int .i64 h.mode, .int .i64 h.uid, .int .i64 h.gid, .int .i64 h.size, .int .i64 h.time, .int .u8 h.typ.toNat, .string h.user, .string h.group, v]
end Go.Creel
namespace Go.Proofs.YtaffgndickdbiaaGreatDoor
open Go.Creel Go.RowKit
abbrev tRecE : TypeId := 85
abbrev tPk : TypeId := 65
set_option maxRecDepth 100000 in
set_option maxHeartbeats 2000000 in
theorem Say_any (b : Nat) (key value : ByteArray) (w0 w : World) (h : HeadN) (v : Value) (l : List Rec) (s : RecSt tRecE tPk w0 w b (pcells h v) v l) (hl : l.length ≤ 100) :
    Calls Tryz.prog 89 #[.pointer (some ⟨b, 0, none⟩), .string key, .string value] w fun e w' => e = .returned (.tuple #[]) ∧ ∃ v', RecSt tRecE tPk w0 w' b (pcells h v') v' (l ++ [⟨key, value⟩]) := by
  obtain ⟨i0, hi, hz0, hz1, hz2⟩ := info_parts info_record
  have HI := Lib.hid (And.intro hi (And.intro hz0 (And.intro hz1 hz2)))
  have H := Lib.hid s
  have HBA := Lib.hid ((Below.refl w.heap.size w).alloc (Nat.le_refl _) (.cells #[.string key, .string value] 85))
  have H3 := Lib.hid (H.out.below HBA.out)
  have c11 : w.cell? ⟨b, 11, none⟩ = some v := H.out.cell 11
  have hlt := s.lt
  clear hi hz0 hz1 hz2 s
  go_enter Tryz.func89, Tryz.ntmps89
  go_wp2_with (at_builtin; refine wpList_app _ rfl (.tmp 10) (.tmp 14) 63 63 rfl _ _ rfl rfl (fun ty => app_src _ 63 63 ty (b + 1) 85 i0 _ 2 32 Tryz.underlying63 HI.out.1 HI.out.2.1 HI.out.2.2.1 HI.out.2.2.2 rfl (by decide) _ _ l.length 1 _ _ H3.out.own (src_rec w _ _ _ Tryz.underlying63 ⟨key, value⟩) (by unfold maxLen; omega) (by omega) H3.out.lt) ?_; intro v4 w4 ho2 hg2 hv2; have HZ := Lib.hid (And.intro ho2 (And.intro hg2 hv2.2)); have e1 : w4.cell? ⟨b, 11, none⟩ = some v := H3.out.cell4 hg2 11; have e2 := H3.out.free4 hg2 11; obtain ⟨g4, cp4, rfl⟩ := ownsRow_form2 ho2; clear ho2 hg2 hv2)
  go_end0
  exact ⟨rfl, _, H3.out.say (r := ⟨key, value⟩) 11 HZ.out.1 HZ.out.2.1 rfl⟩
set_option maxRecDepth 100000 in
set_option maxHeartbeats 1000000 in
theorem Number_any (b : Nat) (key : ByteArray) (n : Int) (w0 w : World) (h : HeadN) (v : Value) (l : List Rec) (s : RecSt tRecE tPk w0 w b (pcells h v) v l) (hl : l.length ≤ 99) (hn : 0 ≤ n ∧ n ≤ 1125899906842624) (hT : Pow10 w) :
    Calls Tryz.prog 85 #[.pointer (some ⟨b, 0, none⟩), .string key, .int .i64 n, .int .i64 8] w fun e w' => e = .returned (.int .i64 (hidNum n 2097151)) ∧ ∃ v', RecSt tRecE tPk w0 w' b (pcells h v') v' (l ++ recNum key n 2097151) := by
  have H := Lib.hid s
  have HT := Lib.hid hT
  have HMO := Lib.hid (Most_any 8 w)
  rw [show octMost 8 = (2097151, 0) by rfl] at HMO
  simp only at HMO
  have h0 : ¬ n < 0 := by omega
  clear s hT
  by_cases hb : 2097151 < n
  · have HF := Lib.hid (recNum_yes (k := key) hb)
    go_enter Tryz.func85, Tryz.ntmps85
    go_wp2_with fail
    refine HMO.out.mono ?_
    rintro e w' ⟨rfl, rfl⟩
    go_wp2_with fail
    refine (Itoa_any n _ (by unfold i64; omega) HT.out).mono ?_
    rintro e w2 ⟨rfl, hb2⟩
    have H2 := Lib.hid (H.out.below hb2)
    clear hb2
    go_wp2_with fail
    refine (Say_any b key _ w0 _ h v l H2.out (by omega)).mono ?_
    rintro e w3 ⟨rfl, v3, s3⟩
    have H3 := Lib.hid s3
    clear s3
    go_wp2
    go_ret
    rw [HF.out.1, HF.out.2]
    exact ⟨rfl, _, H3.out⟩
  · have HF := Lib.hid (recNum_no (k := key) hb)
    go_enter Tryz.func85, Tryz.ntmps85
    go_wp2_with fail
    refine HMO.out.mono ?_
    rintro e w' ⟨rfl, rfl⟩
    go_wp2
    go_ret
    rw [HF.out.1, HF.out.2, List.append_nil]
    exact ⟨rfl, _, H.out⟩
set_option maxRecDepth 100000 in
set_option maxHeartbeats 1000000 in
theorem Text_any (b : Nat) (key t i : ByteArray) (m : Nat) (M : Int) (w0 w : World) (h : HeadN) (v : Value) (l : List Rec) (s : RecSt tRecE tPk w0 w b (pcells h v) v l) (hl : l.length ≤ 99) (hM : M = m) (hm : m ≤ 1000) (ht : t.size ≤ 1000) :
    Calls Tryz.prog 86 #[.pointer (some ⟨b, 0, none⟩), .string key, .string t, .int .i64 M, .string i] w fun e w' => e = .returned (.string (hidText t m i)) ∧ ∃ v', RecSt tRecE tPk w0 w' b (pcells h v') v' (l ++ recText1 key t m) := by
  have H := Lib.hid s
  clear s
  by_cases hb : m < t.size
  · have HF := Lib.hid (recText1_yes (k := key) (i := i) hb)
    have hd : M < (t.size : Int) := by omega
    clear hb
    go_enter Tryz.func86, Tryz.ntmps86
    go_wp2_with fail
    refine (Say_any b key _ w0 _ h v l H.out (by omega)).mono ?_
    rintro e w3 ⟨rfl, v3, s3⟩
    have H3 := Lib.hid s3
    clear s3
    go_wp2
    go_ret
    rw [HF.out.1, HF.out.2]
    exact ⟨rfl, _, H3.out⟩
  · have HF := Lib.hid (recText1_no (k := key) (i := i) hb)
    have hd : ¬ M < (t.size : Int) := by omega
    clear hb
    go_enter Tryz.func86, Tryz.ntmps86
    go_wp2
    go_ret
    rw [HF.out.1, HF.out.2, List.append_nil]
    exact ⟨rfl, _, H.out⟩
end Go.Proofs.YtaffgndickdbiaaGreatDoor
