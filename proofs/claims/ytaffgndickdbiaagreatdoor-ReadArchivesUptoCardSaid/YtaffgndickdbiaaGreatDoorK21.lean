/-
  Texts of this proof, one behind the other: Marked, Atoi, UnpackSpec, Map.
-/
import Derived.Test.YtaffgndickdbiaaGreatDoorK06
import Derived.Lib.ConvBytes
import Derived.Test.YtaffgndickdbiaaGreatDoorK16
import Derived.Test.YtaffgndickdbiaaGreatDoorK03
import Derived.Lib.AtoiAll
import Derived.Test.YtaffgndickdbiaaGreatDoorK17
import Derived.Test.YtaffgndickdbiaaGreatDoorK01
import Derived.MapKept
import Derived.Maps.OwnSet
namespace Go.Creel
set_option linter.unusedVariables false
set_option linter.unusedSimpArgs false
open Go.RowKit
def OwnM (t : TypeId) (w : World) (B : Nat) (v : Value) (l : List UInt8) : Prop :=
  (v = .slice none 0 0 ∧ l = []) ∨ ∃ g cap cur lo hi, v = .slice (some ⟨g, 0, none⟩) l.length cap ∧ B ≤ g ∧ w.heap[g]? = some (.cells cur t (lo, hi)) ∧ (hi ≤ lo ∨ cur.size ≤ lo) ∧ l.length ≤ cap ∧ cap ≤ maxLen ∧ cur.size = cap ∧ cur.toList.take l.length = l.map byteV
theorem OwnM.nil (t : TypeId) (w : World) (B : Nat) : OwnM t w B (.slice none 0 0) [] := .inl ⟨rfl, rfl⟩
theorem OwnBs.marked {t : TypeId} {w : World} {B : Nat} {v : Value} {l : List UInt8} (h : OwnBs t w B v l) : OwnM t w B v l := by
  rcases h.2 with ⟨rfl, h0⟩ | ⟨g, cap, cur, rfl, hbg, hg, hnc, hcm, hcs, htake⟩
  · exact .inl ⟨rfl, List.eq_nil_of_length_eq_zero h0⟩
  · exact .inr ⟨g, cap, cur, 0, 0, rfl, hbg, hg, .inl (Nat.le_refl _), hnc, hcm, by simpa using hcs, by simpa using htake⟩
theorem toList_len (s : ByteArray) : s.data.toList.length = s.size := by simp
theorem OwnM.conv (w : World) (t : TypeId) (s : ByteArray) (h : s.size ≤ maxLen) : OwnM t (Lib.bytesWorld w t s) w.heap.size (.slice (some ⟨w.heap.size, 0, none⟩) s.size (grownCap w s.size 0 t)) s.data.toList := by
  have hge := grownCap_ge w s.size 0 t
  have hcs : (Lib.bytesCells w t s).size = grownCap w s.size 0 t := by
    unfold Lib.bytesCells
    simp only [Array.size_append, Array.size_map, Array.size_replicate]
    have : s.data.size = s.size := rfl
    omega
  refine .inr ⟨w.heap.size, _, _, _, _, by rw [toList_len], Nat.le_refl _, Lib.bytesWorld_at_new w t s, .inr (Nat.le_refl _), by rw [toList_len]; exact hge, grownCap_le_maxLen w s.size 0 t h, hcs, ?_⟩
  unfold Lib.bytesCells
  rw [Array.toList_append, Array.toList_map]
  rw [show s.data.toList.length = (s.data.toList.map fun b => Value.int .u8 b.toNat).length by simp]
  exact List.take_left
theorem conv_below (w : World) (t : TypeId) (s : ByteArray) : Below w.heap.size w (Lib.bytesWorld w t s) :=
  ⟨rfl, rfl, rfl, by rw [Lib.bytesWorld_size]; omega, fun k hk => Lib.bytesWorld_at_old w t s k hk⟩
section
variable {t : TypeId} {w w' : World} {B B' : Nat} {v : Value} {l m : List UInt8}
theorem OwnM.below (h : OwnM t w B v l) (hb : Below w.heap.size w w') : OwnM t w' B v l := by
  rcases h with h | ⟨g, cap, cur, lo, hi, h1, h2, h3, h4⟩
  · exact .inl h
  · exact .inr ⟨g, cap, cur, lo, hi, h1, h2, (hb.block g (Array.getElem?_eq_some_iff.1 h3).1).trans h3, h4⟩
theorem OwnM.mono (h : OwnM t w B v l) (hb : B' ≤ B) : OwnM t w B' v l := by
  rcases h with h | ⟨g, cap, cur, lo, hi, h1, h2, h3⟩
  · exact .inl h
  · exact .inr ⟨g, cap, cur, lo, hi, h1, Nat.le_trans hb h2, h3⟩
theorem OwnM.lt (h : OwnM t w B v l) {k : Nat} (hk : v.ownBlock = some k) : B ≤ k ∧ k < w.heap.size := by
  rcases h with ⟨rfl, _⟩ | ⟨g, cap, cur, lo, hi, rfl, h2, h3, _⟩
  · cases hk
  · cases hk; exact ⟨h2, (Array.getElem?_eq_some_iff.1 h3).1⟩
theorem OwnM.form (h : OwnM t w B v l) : ∃ a cap, v = .slice a l.length cap ∧ cap ≤ maxLen := by
  rcases h with ⟨rfl, rfl⟩ | ⟨g, cap, cur, lo, hi, rfl, _, _, _, _, h6, _⟩
  · exact ⟨none, 0, rfl, by simp⟩
  · exact ⟨_, cap, rfl, h6⟩
theorem OwnM.slice {N : Nat} (h : OwnM t w B v l) (hN : l.length ≤ N) : SliceC N 1 ByteC w [v] l := by
  rcases h with ⟨rfl, rfl⟩ | ⟨g, cap, cur, lo, hi, rfl, _, hg, _, hnc, hcm, hcs, htake⟩
  · exact ⟨none, 0, rfl, by simp, by simp, by simp, fun _ => rfl, fun h => absurd h (by simp)⟩
  · refine ⟨some ⟨g, 0, none⟩, cap, rfl, hnc, hcm, hN, (fun h => by cases h), fun _ => ⟨g, 0, rfl, fun i hi => ⟨[byteV l[i]], rfl, fun j hj => ?_, rfl⟩⟩⟩
    obtain rfl : j = 0 := by omega
    simp only [Nat.zero_add, Nat.mul_one, Nat.add_zero]
    rw [cell_of_row w g i cur t _ hg]
    have e := congrArg (fun x => x[i]?) htake
    simp only [List.getElem?_take, hi, if_true, List.getElem?_map, List.getElem?_eq_getElem hi, Option.map_some] at e
    simpa using e
theorem heap_setCell_marked (w : World) (g i : Nat) (cs : Array Value) (t : TypeId) (fr : Nat × Nat) (v : Value) (hg : w.heap[g]? = some (.cells cs t fr)) :
    (w.setCell ⟨g, i, none⟩ v).heap[g]? = some (.cells (cs.setIfInBounds i v) t fr) := by
  simp [World.setCell, Array.getElem?_modify, hg]
theorem setCells_marked (g : Nat) {e : TypeId} {fr : Nat × Nat} : ∀ (vs : List Value) (o : Nat) (w : World) (cur : Array Value), w.heap[g]? = some (.cells cur e fr) → o + vs.length ≤ cur.size →
    ∃ cur' : Array Value, (w.setCells g o vs).heap[g]? = some (.cells cur' e fr) ∧ cur'.size = cur.size ∧ cur'.toList.take (o + vs.length) = cur.toList.take o ++ vs
  | [], o, w, cur, h, _ => ⟨cur, h, rfl, by simp⟩
  | v :: r, o, w, cur, h, hl => by
    have h1 := heap_setCell_marked w g o cur e fr v h
    obtain ⟨cur', a1, a2, a3⟩ := setCells_marked g r (o + 1) (w.setCell ⟨g, o, none⟩ v) _ h1 (by simp at hl ⊢; omega)
    refine ⟨cur', a1, by simpa using a2, ?_⟩
    have e1 : o + (v :: r).length = o + 1 + r.length := by simp; omega
    rw [e1, a3]
    have ho : o < cur.toList.length := by simp at hl ⊢; omega
    rw [Array.toList_setIfInBounds, List.take_succ_eq_append_getElem (by simpa using ho)]
    simp [List.take_set, List.getElem_set]
    exact List.set_eq_of_length_le (by simp; omega)
theorem src_str {P : Program} {w : World} {tx : TypeId} (hk : P.underlying tx = some .string) (s : ByteArray) : Src P 1 tx (.string s) s.data.toList.length (s.data.toList.map byteV) w := by
  rw [toList_len]; exact Src.ofString w hk s
end
def AppM (P : Program) (w : World) (t tx ty : TypeId) (v x : Value) (B : Nat) (e : TypeId) (l m : List UInt8) : Prop :=
  ∃ v' w', (Builtin.append_ #[t, tx] ty #[v, x]).run P w = .ok v' w' ∧ OwnM e w' B v' (l ++ m) ∧ w.grownBy w' v.ownBlock
theorem app_m {P : Program} (w : World) (t tx e ty : TypeId) (i : TypeInfo) (ht : P.underlying t = some (.slice e)) (hi : P.info? e = some i) (hz : i.zero = some (.int .u8 0)) (h1 : i.size = 1) (hb : i.bytes = 1)
    {B : Nat} {v x : Value} {l m : List UInt8} (hv : OwnM e w B v l) (hs : Src P 1 tx x m.length (m.map byteV) w) (hbound : l.length + m.length ≤ 140737488355328) (hB : B ≤ w.heap.size) : AppM P w t tx ty v x B e l m := by
  rcases hv with ⟨rfl, rfl⟩ | ⟨g, cap, cur, lo, hi', rfl, hbg, hg, hmk, hnc, hcm, hcs, htake⟩
  · obtain ⟨v', w', a1, a2, a3, _⟩ := app_src w t tx ty B e i (.int .u8 0) 1 1 ht hi hz h1 hb rfl (by decide) (.slice none 0 0) x 0 m.length [] (m.map byteV) (World.ownsRow_nil w B e 1) hs (by unfold maxLen; simp at hbound; omega) (by simp at hbound; omega) hB
    exact ⟨v', w', a1, (OwnBs.app (l := []) (m := m) (by simpa using a2)).marked, a3⟩
  · by_cases hroom : l.length + m.length ≤ cap
    · have hfz : ∀ j, j < cur.size → w.frozen? ⟨g, j, none⟩ = false := by
        intro j hj
        simp only [World.frozen?, hg]
        rcases hmk with h | h
        · simp; omega
        · simp; omega
      have hr := run_append_room_src (P := P) w t tx ty e i ht hi g 0 l.length cap x m.length (m.map byteV) (by rw [h1]; exact hs) hroom
        (fun j hj => by rw [h1, cell_of_row w g _ cur e _ hg, Nat.zero_add, Array.getElem?_eq_getElem (by simp at hj; omega)]; rfl) (fun j hj => by rw [h1]; exact hfz _ (by simp at hj; omega))
      rw [Nat.zero_add, h1, Nat.mul_one] at hr
      obtain ⟨cur', a1, a2, a3⟩ := setCells_marked g (m.map byteV) l.length w cur hg (by simp; omega)
      obtain ⟨m1, m2, m3, m4⟩ := setCells_meta g (m.map byteV) l.length w
      refine ⟨_, _, hr, .inr ⟨g, cap, cur', lo, hi', by rw [List.length_append], hbg, a1, by rw [a2]; exact hmk, by rw [List.length_append]; exact hroom, hcm, a2.trans hcs, ?_⟩, ⟨m1, m2, m3, by omega, fun k _ hk => setCells_other g (m.map byteV) _ w k (fun e => hk (by rw [e]; rfl))⟩⟩
      rw [List.length_append, List.map_append, ← htake]
      simpa using a3
    · have holds : ∀ j u, (l.map byteV)[j]? = some u → w.drew.cell? ((⟨g, 0, none⟩ : Addr).add j) = some u := by
        intro j u hu
        have hj : j < l.length := by
          rcases Nat.lt_or_ge j l.length with h | h
          · exact h
          · rw [List.getElem?_eq_none (by simpa using h)] at hu; cases hu
        have ea : (⟨g, 0, none⟩ : Addr).add j = ⟨g, j, none⟩ := by unfold Addr.add; split <;> simp_all
        rw [ea]
        show w.cell? ⟨g, j, none⟩ = some u
        rw [cell_of_row w g j cur e _ hg, ← hu, ← htake]
        simp [List.getElem?_take, hj]
      have hold := run_firstCells_some (P := P) w.drew i.size l.length ⟨g, 0, none⟩ l.length cap (l.map byteV) (by rw [h1]; simp) holds
      have hr := run_append_grow_src (P := P) w t tx ty e i (.int .u8 0) ht hi hz (some ⟨g, 0, none⟩) l.length cap (l.map byteV) hold x m.length (m.map byteV) (by rw [h1]; exact hs) (by omega) (by omega) (growslice_fits (by omega) (by rw [hb]; omega))
      have hgr := own_grown w B e 1 l.length m.length cap (.int .u8 0) (l.map byteV) (m.map byteV) rfl (by simp) (by simp) (by unfold maxLen; omega) (by omega) hB (some g)
      exact ⟨_, _, hr, (OwnBs.app hgr.1).marked, hgr.2⟩
theorem wpList_appM {P : Program} {w : World} {ops : Array Oper} {rest : List Oper} {o : Oper} {a : Act} {Q : Exit → Act → World → Prop} (hgd : o.guard = none) (s x : Operand) (t tx : TypeId)
    (ho : o.op = .call { callee := .builtin .append, args := #[s, x], argTypes := #[t, tx] }) (vs vx : Value) (hs : a.eval s = vs) (hx : a.eval x = vx) {B : Nat} {e : TypeId} {l m : List UInt8}
    (happ : ∀ ty, AppM P w t tx ty vs vx B e l m)
    (h : ∀ v' w', OwnM e w' B v' (l ++ m) → w.grownBy w' vs.ownBlock → wpList P ops Q rest (a.put o.dst v') w') : wpList P ops Q (o :: rest) a w := by
  obtain ⟨v', w', hr, h1, h2⟩ := happ o.type
  exact Lib.wpList_append_run w hgd s x t tx ho vs vx hs hx v' w' hr (h v' w' h1 h2)
theorem step_appM {P : Program} {w : World} {ops : Array Oper} {o : Oper} {a : Act} {K : Act → World → Prop} {Q : Exit → Act → World → Prop} {E : Prop} (hgd : o.guard = none) (s x : Operand) (t tx : TypeId)
    (ho : o.op = .call { callee := .builtin .append, args := #[s, x], argTypes := #[t, tx] }) (vs vx : Value) (hs : a.eval s = vs) (hx : a.eval x = vx) {B : Nat} {e : TypeId} {l m : List UInt8}
    (happ : ∀ ty, AppM P w t tx ty vs vx B e l m)
    (h : ∀ v' w', OwnM e w' B v' (l ++ m) → w.grownBy w' vs.ownBlock → K (a.put o.dst v') w') :
    if Region.wanted o (yielded ops a.tmps) = true then Oper.wp P o a w K Q else E := by
  obtain ⟨v', w', hr, h1, h2⟩ := happ o.type
  have hw : Region.wanted o (yielded ops a.tmps) = true := by simp [Region.wanted, hgd]
  rw [if_pos hw]
  unfold Oper.wp execOp
  simp only [ho, resolve, invoke, builtin, Sem.run_bind, Sem.run_pure, Result.andThen_ok, List.map_toArray, List.map_cons, List.map_nil, hs, hx, hr]
  exact h v' w' h1 h2
theorem OwnM.grown {t : TypeId} {w0 w w' : World} {B C : Nat} {v : Value} {l : List UInt8} (hb : Below B w0 w) (hg : w.grownBy w' v.ownBlock) (hv : OwnM t w C v l) (hB : B ≤ w.heap.size) (hC : B ≤ C) : Below B w0 w' :=
  hb.grown hg hB (fun k hk => Nat.le_trans hC (hv.lt hk).1)
end Go.Creel
namespace Go.Creel
set_option linter.unusedVariables false
set_option linter.unusedSimpArgs false
open Go.RowKit
noncomputable def atoiV (s : ByteArray) : Int := match Lib.atoiAll s.data.toList with
  | .ok v => v
  | .«syntax» => 0
  | .range => Lib.atoiSat s.data.toList
def ErrAt (w : World) (g : Nat) : Prop := ∃ ev, w.cell? ⟨g, 0, none⟩ = some ev ∧ (ev = .nilIface ∨ ∃ te pe, ev = .iface te pe)
theorem ErrAt.below {w w' : World} {g : Nat} (h : ErrAt w g) (hb : Below w.heap.size w w') : ErrAt w' g := by
  obtain ⟨ev, h1, h2⟩ := h
  exact ⟨ev, (hb.cell (p := ⟨g, 0, none⟩) (World.block_lt_of_cell? w _ h1)).trans h1, h2⟩
def textOf (l : List Rec) (key s : ByteArray) : ByteArray := if (recFind l key).2 = true then (recFind l key).1 else s
noncomputable def numOf (l : List Rec) (key : ByteArray) (n : Int) : Int := if (recFind l key).2 = true then atoiV (recFind l key).1 else n
end Go.Creel
namespace Go.Proofs.YtaffgndickdbiaaGreatDoor
set_option linter.unusedVariables false
set_option linter.unusedSimpArgs false
open Go.Creel Go.RowKit
def ErrsOk (w : World) : Prop := ErrAt w 0 ∧ ErrAt w 1
theorem ErrsOk.below {w w' : World} (h : ErrsOk w) (hb : Below w.heap.size w w') : ErrsOk w' := ⟨h.1.below hb, h.2.below hb⟩
theorem Atoi_any (s : ByteArray) (w : World) (hs : s.size ≤ 140737488355328) (hE : ErrsOk w) :
    Calls Tryz.prog 57 #[.string s] w fun e w' => (∃ ev, e = .returned (.tuple #[.int .i64 (atoiV s), ev])) ∧ Below w.heap.size w w' := by
  obtain ⟨⟨e0, h0, k0⟩, ⟨e1, h1, k1⟩⟩ := hE
  unfold atoiV
  cases h : Lib.atoiAll s.data.toList with
  | ok v =>
    refine (Tryz.strconv_Atoi_ok s (by omega) v h w).mono ?_
    rintro e w' ⟨rfl, hw⟩
    refine ⟨⟨_, rfl⟩, ?_⟩
    rcases hw with rfl | ⟨t, rfl⟩
    · exact Below.refl _ _
    · exact conv_below w _ t
  | «syntax» =>
    refine (Tryz.strconv_Atoi_syntax s (by omega) h e0 w h0 k0).mono ?_
    rintro e w' ⟨N, rfl, _, _, hb⟩
    exact ⟨⟨_, rfl⟩, hb⟩
  | range =>
    refine (Tryz.strconv_Atoi_range s (by omega) h e1 w h1 k1).mono ?_
    rintro e w' ⟨N, rfl, _, _, hb⟩
    exact ⟨⟨_, rfl⟩, hb⟩
set_option maxRecDepth 100000 in
theorem TextU_any (key s : ByteArray) (bl : Nat) (vl : Value) (l : List Rec) (w : World) (hc : w.cell? ⟨bl, 0, none⟩ = some vl) (hS : SliceC maxLen 2 (RecC maxLen) w [vl] l) :
    Calls Tryz.prog 120 #[.string key, .string s, .pointer (some ⟨bl, 0, none⟩)] w fun e w' => e = .returned (.string (textOf l key s)) ∧ Below w.heap.size w w' := by
  have HFN := Lib.hid (Find_any (N := maxLen) vl l key w hS)
  have HT : Hid (∀ p : ByteArray × Bool, recFind l key = p → textOf l key s = if p.2 = true then p.1 else s) := Lib.hid (fun p h => by subst h; rfl)
  have HT2 := Lib.hid (HT.out _ rfl)
  generalize recFind l key = p at *
  obtain ⟨p1, p2⟩ := p
  clear hS HT
  cases p2 with
  | true =>
    go_enter Tryz.func120, Tryz.ntmps120
    go_wp2_with fail
    refine HFN.out.mono ?_
    rintro e w1 ⟨rfl, hb⟩
    have HB := Lib.hid hb
    clear hb
    go_wp2
    go_ret
    exact ⟨by rw [HT2.out]; rfl, HB.out⟩
  | false =>
    go_enter Tryz.func120, Tryz.ntmps120
    go_wp2_with fail
    refine HFN.out.mono ?_
    rintro e w1 ⟨rfl, hb⟩
    have HB := Lib.hid hb
    clear hb
    go_wp2
    go_ret
    exact ⟨by rw [HT2.out]; rfl, HB.out⟩
set_option maxRecDepth 100000 in
theorem NumU_any (key : ByteArray) (n : Int) (bl : Nat) (vl : Value) (l : List Rec) (w : World) (hc : w.cell? ⟨bl, 0, none⟩ = some vl) (hS : SliceC maxLen 2 (RecC maxLen) w [vl] l) (hE : ErrsOk w) (hsz : (recFind l key).1.size ≤ 140737488355328) :
    Calls Tryz.prog 122 #[.string key, .int .i64 n, .pointer (some ⟨bl, 0, none⟩)] w fun e w' => e = .returned (.int .i64 (numOf l key n)) ∧ Below w.heap.size w w' := by
  have HFN := Lib.hid (Find_any (N := maxLen) vl l key w hS)
  have HE := Lib.hid hE
  have HT : Hid (∀ p : ByteArray × Bool, recFind l key = p → numOf l key n = if p.2 = true then atoiV p.1 else n) := Lib.hid (fun p h => by subst h; rfl)
  have HT2 := Lib.hid (HT.out _ rfl)
  generalize recFind l key = p at *
  obtain ⟨p1, p2⟩ := p
  simp only at hsz
  clear hS HT hE
  cases p2 with
  | true =>
    go_enter Tryz.func122, Tryz.ntmps122
    go_wp2_with fail
    refine HFN.out.mono ?_
    rintro e w1 ⟨rfl, hb⟩
    have HB := Lib.hid hb
    clear hb
    go_wp2_with fail
    refine (Atoi_any p1 _ hsz (HE.out.below HB.out)).mono ?_
    rintro e w2 ⟨⟨ev, rfl⟩, hb⟩
    have HB2 := Lib.hid (HB.out.trans (hb.mono HB.out.size))
    clear hb
    go_wp2
    go_ret
    exact ⟨by rw [HT2.out]; rfl, HB2.out⟩
  | false =>
    go_enter Tryz.func122, Tryz.ntmps122
    go_wp2_with fail
    refine HFN.out.mono ?_
    rintro e w1 ⟨rfl, hb⟩
    have HB := Lib.hid hb
    clear hb
    go_wp2
    go_ret
    exact ⟨by rw [HT2.out]; rfl, HB.out⟩
end Go.Proofs.YtaffgndickdbiaaGreatDoor
namespace Go.Creel
set_option linter.unusedVariables false
set_option linter.unusedSimpArgs false
open Go.RowKit
def kindOfT (c : UInt8) : Int := if c = 48 then 1 else if c = 53 then 2 else if c = 50 then 3 else if c = 49 then 4 else 0
noncomputable def timeR (l : List Rec) (t : Int) : Int × Int :=
  if (recFind l kMtime).2 = true then ((timeAns (recFind l kMtime).1.data.toList (rawP (recFind l kMtime).1.data.toList)).1, (timeAns (recFind l kMtime).1.data.toList (rawP (recFind l kMtime).1.data.toList)).2.1) else (t, 0)
noncomputable def unpackOf (h : HeadN) (l : List Rec) (da : Option Addr) (dcap : Nat) (d : List UInt8) : Ent :=
  ⟨textOf l kPath (cutOne h.px h.nm).1, kindOfT h.typ, textOf l kLink h.lk, ⟨h.mode, numOf l kUid h.uid, numOf l kGid h.gid, textOf l kUname h.user, textOf l kGname h.group, (timeR l h.time).1, (timeR l h.time).2⟩, da, dcap, d⟩
theorem recFind_small {N : Nat} : ∀ {l : List Rec} (key : ByteArray), (∀ r ∈ l, r.key.size ≤ N ∧ r.value.size ≤ N) → (recFind l key).1.size ≤ N
  | [], key, _ => by simp [recFind]
  | r :: t, key, h => by
    unfold recFind
    split
    · exact (h r (by simp)).2
    · exact recFind_small key (fun x hx => h x (by simp [hx]))
theorem memBytes_place (h : HeadN) (l : List Rec) (da da' : Option Addr) (dcap dcap' : Nat) (d : List UInt8) : memBytes (unpackOf h l da dcap d) = memBytes (unpackOf h l da' dcap' d) := rfl
def entNone : Ent := ⟨ByteArray.empty, 0, ByteArray.empty, ⟨0, 0, 0, ByteArray.empty, ByteArray.empty, 0, 0⟩, none, 0, []⟩
open Classical in
noncomputable def memEnd (b : List UInt8) (n : Nat) (h : HeadN) (l : List Rec) (d : List UInt8) : Ent × Int × Int :=
  if memBytes (unpackOf h l none 0 d) = (b.take n, 0) then (unpackOf h l none 0 d, n, 0) else (entNone, 0, 3)
noncomputable def memOf (b : List UInt8) : Ent × Int × Int :=
  if ¬ (blockOf b).2.2.2 = 0 then (entNone, 0, (blockOf b).2.2.2)
  else if ¬ (blockOf b).1.typ = 120 then memEnd b (b.length - (blockOf b).2.2.1.length) (blockOf b).1 [] (blockOf b).2.1
  else if ¬ (paxOf (ofL (blockOf b).2.1)).2 = 0 then (entNone, 0, (paxOf (ofL (blockOf b).2.1)).2)
  else if ¬ (blockOf (blockOf b).2.2.1).2.2.2 = 0 then (entNone, 0, (blockOf (blockOf b).2.2.1).2.2.2)
  else memEnd b (b.length - (blockOf (blockOf b).2.2.1).2.2.1.length) (blockOf (blockOf b).2.2.1).1 (paxOf (ofL (blockOf b).2.1)).1 (blockOf (blockOf b).2.2.1).2.1
end Go.Creel
namespace Go.Creel
set_option linter.unusedVariables false
set_option linter.unusedSimpArgs false
set_option linter.unusedSectionVars false
open Go.RowKit
structure KeyOn {κ : Type} [DecidableEq κ] (kind : TypeDesc) (mk : κ → Value) : Prop where
  same : ∀ a b, Instr.sameNow kind (mk a) (mk b) = some (decide (a = b))
  bits : ∀ a, Instr.sameBits 10000 (mk a) (mk a) = true
  check : ∀ {P : Program} {t : TypeId} (w : World) (a : κ), P.underlying t = some kind → (Instr.checkKey false 10000 t (mk a)).run P w = .ok () w
  checkE : ∀ {P : Program} {t : TypeId} (w : World) (a : κ), P.underlying t = some kind → (Instr.checkKey true 10000 t (mk a)).run P w = .ok () w
theorem checkKey_succ (b : Bool) (t : TypeId) (v : Value) : Instr.checkKey b 10000 t v = Instr.checkKey b (9999 + 1) t v := rfl
theorem bab (a b : ByteArray) : (a == b) = decide (a = b) := by
  have h : (a == b) = (a.data == b.data) := rfl
  rw [h, Bool.eq_iff_iff, beq_iff_eq, decide_eq_true_iff]
  exact ⟨fun h => ByteArray.ext h, fun h => by rw [h]⟩
theorem keyOn_str : KeyOn .string (fun s : ByteArray => Value.string s) where
  same a b := by simp [Instr.sameNow, bab]
  bits a := by simp [Instr.sameBits, bab]
  check w a h := by rw [checkKey_succ]; unfold Instr.checkKey; simp [run_underlying h, Result.andThen]
  checkE w a h := by rw [checkKey_succ]; unfold Instr.checkKey; simp [run_underlying h, Result.andThen]
section
variable {κ : Type} [DecidableEq κ]
def assoc (k : κ) : List (κ × Value) → Option Value
  | [] => none
  | p :: r => if k = p.1 then some p.2 else assoc k r
def assocPut (k : κ) (v : Value) : List (κ × Value) → List (κ × Value)
  | [] => [(k, v)]
  | p :: r => if k = p.1 then (k, v) :: r else p :: assocPut k v r
theorem assoc_put (k k' : κ) (v : Value) : ∀ l, assoc k' (assocPut k v l) = if k' = k then some v else assoc k' l
  | [] => by simp [assocPut, assoc]
  | p :: r => by
    have ih := assoc_put k k' v r
    unfold assocPut
    by_cases h : k = p.1
    · rw [if_pos h]
      unfold assoc
      by_cases h2 : k' = k
      · simp [h2]
      · rw [if_neg h2, if_neg h2, if_neg (by rw [← h]; exact h2)]
    · rw [if_neg h]
      unfold assoc
      by_cases h2 : k' = p.1
      · rw [if_pos h2, if_pos h2, if_neg (by rw [h2]; exact fun e => h e.symm)]
      · rw [if_neg h2, if_neg h2, ih]
def MapIs (mk : κ → Value) (w : World) (b : Nat) (l : List (κ × Value)) : Prop :=
  ∃ es clock, w.heap[b]? = some (.map es clock) ∧ es.toList.map (fun e => (e.key, e.val)) = l.map (fun p => (mk p.1, p.2))
theorem MapIs.lt {mk : κ → Value} {w : World} {b : Nat} {l : List (κ × Value)} (h : MapIs mk w b l) : b < w.heap.size := by
  obtain ⟨es, clock, hb, _⟩ := h
  exact (Array.getElem?_eq_some_iff.1 hb).1
theorem MapIs.below {mk : κ → Value} {w w' : World} {b : Nat} {l : List (κ × Value)} {B : Nat} (h : MapIs mk w b l) (hb : Below B w w') (hB : b < B) : MapIs mk w' b l := by
  obtain ⟨es, clock, h1, h2⟩ := h
  exact ⟨es, clock, (hb.block b hB).trans h1, h2⟩
theorem MapIs.made (mk : κ → Value) (w : World) : MapIs mk (w.alloc (.map #[] 0)) w.heap.size ([] : List (κ × Value)) := ⟨#[], 0, heap_alloc_new w _, rfl⟩
theorem findNow_spec {kind : TypeDesc} {mk : κ → Value} (K : KeyOn kind mk) (k : κ) (u : Value) : ∀ (es : List MapEntry) (l : List (κ × Value)) (i : Nat), es.map (fun e => (e.key, e.val)) = l.map (fun p => (mk p.1, p.2)) →
    (assoc k l = none ∧ Instr.findNow kind (mk k) es i = some none ∧ assocPut k u l = l ++ [(k, u)]) ∨
    ∃ j v e, assoc k l = some v ∧ Instr.findNow kind (mk k) es i = some (some (i + j, v)) ∧ es[j]? = some e ∧ e.key = mk k ∧ (es.modify j (fun e => { e with key := mk k, val := u })).map (fun e => (e.key, e.val)) = (assocPut k u l).map (fun p => (mk p.1, p.2))
  | [], [], _, _ => .inl ⟨rfl, rfl, rfl⟩
  | [], p :: l, _, h => by simp at h
  | e :: es, [], _, h => by simp at h
  | e :: es, p :: l, i, h => by
    simp only [List.map_cons, List.cons.injEq, Prod.mk.injEq] at h
    obtain ⟨⟨hk, hv⟩, hr⟩ := h
    have hs := K.same k p.1
    by_cases hkp : k = p.1
    · right
      refine ⟨0, p.2, e, by simp [assoc, hkp], ?_, rfl, by rw [hk, hkp], ?_⟩
      · unfold Instr.findNow
        rw [hk, hs, hkp]
        simp [hv]
      · simp [assocPut, hkp, hr]
    · have hf : Instr.findNow kind (mk k) (e :: es) i = Instr.findNow kind (mk k) es (i + 1) := by
        conv => lhs; unfold Instr.findNow
        rw [hk, hs]
        simp [hkp]
      rcases findNow_spec K k u es l (i + 1) hr with ⟨h1, h2, h3⟩ | ⟨j, v, e', h1, h2, h3, h4, h5⟩
      · left
        exact ⟨by simp [assoc, hkp, h1], by rw [hf, h2], by simp [assocPut, hkp, h3]⟩
      · right
        refine ⟨j + 1, v, e', by simp [assoc, hkp, h1], by rw [hf, h2]; congr 3; omega, by simpa using h3, h4, ?_⟩
        simp [assocPut, hkp, h5, hk, hv]
variable {P : Program} {w : World} {mk : κ → Value} {kind : TypeDesc} {b : Nat} {l : List (κ × Value)}
theorem MapIs.checked (K : KeyOn kind mk) {k : TypeId} (hk : P.underlying k = some kind) (c : Bool) (a : κ) : (Instr.checkKey c 10000 k (mk a)).run P w = .ok () w := by
  cases c
  · exact K.check w a hk
  · exact K.checkE w a hk
theorem MapIs.look_some (h : MapIs mk w b l) (K : KeyOn kind mk) {t k e : TypeId} (ht : P.underlying t = some (.map k e)) (hk : P.underlying k = some kind) {a : κ} {v : Value} (ha : assoc a l = some v) (ok : Bool) :
    (Instr.lookup t (.map (some b)) (mk a) ok).run P w = .ok (if ok then .tuple #[v, .bool true] else v) w := by
  obtain ⟨es, clock, hb, hes⟩ := h
  rcases findNow_spec K a undef es.toList l 0 hes with ⟨h1, _⟩ | ⟨j, v', e', h1, h2, _⟩
  · rw [h1] at ha; cases ha
  · rw [h1] at ha
    cases ha
    unfold Instr.lookup Instr.findKey
    simp only [Sem.run_bind, run_underlying ht, Result.andThen_ok, MapKept.run_getObj_map hb, MapIs.checked K hk, run_underlying hk, h2, Sem.run_pure]
theorem MapIs.look_none (h : MapIs mk w b l) (K : KeyOn kind mk) {t k e : TypeId} (ht : P.underlying t = some (.map k e)) (hk : P.underlying k = some kind) {a : κ} {z : Value} (ha : assoc a l = none) (hz : (zeroValue e).run P w = .ok z w) (ok : Bool) :
    (Instr.lookup t (.map (some b)) (mk a) ok).run P w = .ok (if ok then .tuple #[z, .bool false] else z) w := by
  obtain ⟨es, clock, hb, hes⟩ := h
  rcases findNow_spec K a undef es.toList l 0 hes with ⟨h1, h2, _⟩ | ⟨j, v', e', h1, h2, _⟩
  · unfold Instr.lookup Instr.findKey
    simp only [Sem.run_bind, run_underlying ht, Result.andThen_ok, MapKept.run_getObj_map hb, MapIs.checked K hk, run_underlying hk, h2, Sem.run_pure, hz]
  · rw [h1] at ha; cases ha
theorem MapIs.put (h : MapIs mk w b l) (K : KeyOn kind mk) {t k e : TypeId} (ht : P.underlying t = some (.map k e)) (hk : P.underlying k = some kind) (a : κ) (u : Value) :
    ∃ w', (Instr.mapUpdate t (.map (some b)) (mk a) u).run P w = .ok () w' ∧ MapIs mk w' b (assocPut a u l) ∧ w.grownBy w' (some b) := by
  obtain ⟨es, clock, hb, hes⟩ := h
  have hlt : b < w.heap.size := (Array.getElem?_eq_some_iff.1 hb).1
  rcases findNow_spec K a u es.toList l 0 hes with ⟨h1, h2, h3⟩ | ⟨j, v', e', h1, h2, h3, h4, h5⟩
  · refine ⟨_, by
      unfold Instr.mapUpdate Instr.findKey
      simp only [Sem.run_bind, run_underlying ht, Result.andThen_ok, MapKept.run_getObj_map hb, MapIs.checked K hk, run_underlying hk, h2, Sem.run_pure]
      exact MapKept.run_setObj_map _ hb, ?_, ?_⟩
    · refine ⟨_, _, by simp [hlt]; exact ⟨rfl, rfl⟩, ?_⟩
      rw [h3]
      simp [hes]
    · exact ⟨rfl, rfl, rfl, by simp, fun i _ hi => by
        simp only [Array.getElem?_setIfInBounds]
        rw [if_neg (fun e => hi (by rw [e]))]⟩
  · have hej : es[j]? = some e' := by simpa using h3
    refine ⟨_, by
      unfold Instr.mapUpdate Instr.findKey Instr.keyThatStays
      simp only [Sem.run_bind, run_underlying ht, Result.andThen_ok, MapKept.run_getObj_map hb, MapIs.checked K hk, run_underlying hk, h2, Sem.run_pure, Nat.zero_add, hej, Option.map_some, Option.getD_some, h4, K.bits, if_true]
      exact MapKept.run_setObj_map _ hb, ?_, ?_⟩
    · refine ⟨_, _, by simp [hlt]; exact ⟨rfl, rfl⟩, ?_⟩
      rw [← h5]
      simp [Array.toList_modify]
    · exact ⟨rfl, rfl, rfl, by simp, fun i _ hi => by
        simp only [Array.getElem?_setIfInBounds]
        rw [if_neg (fun e => hi (by rw [e]))]⟩
end
theorem map_put_new {κ : Type} [DecidableEq κ] {P : Program} {kind : TypeDesc} {mk : κ → Value} (K : KeyOn kind mk) {t k e : TypeId} (ht : P.underlying t = some (.map k e)) (hk : P.underlying k = some kind)
    (es : Array MapEntry) (clock : Nat) (a : κ) (u : Value) (hn : Instr.findNow kind (mk a) es.toList 0 = some none) (W : World) :
    (Instr.mapUpdate t (.map (some W.heap.size)) (mk a) u).run P (W.alloc (.map es clock)) = .ok () (W.alloc (.map (es.push { key := mk a, val := u, born := clock }) (clock + 1))) := by
  have hb : (W.alloc (.map es clock)).heap[W.heap.size]? = some (.map es clock) := heap_alloc_new W _
  unfold Instr.mapUpdate Instr.findKey
  simp only [Sem.run_bind, run_underlying ht, Result.andThen_ok, MapKept.run_getObj_map hb, MapIs.checked K hk, run_underlying hk, hn, Sem.run_pure]
  rw [MapKept.run_setObj_map _ hb]
  congr 1
  simp only [World.alloc]
  congr 1
  apply Array.ext_getElem?
  intro i
  simp only [Array.getElem?_setIfInBounds, Array.getElem?_push, Array.size_push]
  by_cases hi : W.heap.size = i
  · subst hi; simp
  · rw [if_neg hi, if_neg (fun e => hi e.symm), if_neg (fun e => hi e.symm)]
end Go.Creel
