/-
  diff.Of's closure: a change put behind the others.
-/
import Derived.Test.YtaffgndickdbiaaDoorChgsOwn
namespace Go.Creel
set_option linter.unusedVariables false
set_option linter.unusedSimpArgs false
open Go.RowKit
theorem ownsRow_else {w : World} {B size n b : Nat} {t : TypeId} {v : Value} {xs : List Value} (u : Value) (h : w.ownsRow B t size v n xs) (hne : v.ownBlock ≠ some b) : (w.setCell ⟨b, 0, none⟩ u).ownsRow B t size v n xs := by
  refine ⟨h.1, ?_⟩
  rcases h.2 with h0 | ⟨g, cap, cur, rfl, hbg, hg, r⟩
  · exact .inl h0
  · refine .inr ⟨g, cap, cur, rfl, hbg, ?_, r⟩
    rw [heap_setCell_other w ⟨b, 0, none⟩ g u (fun e => hne (by rw [e]; rfl))]
    exact hg
theorem ownsRow_form {w : World} {B size n : Nat} {t : TypeId} {v : Value} {xs : List Value} (h : w.ownsRow B t size v (n + 1) xs) : ∃ g cap, v = .slice (some ⟨g, 0, none⟩) (n + 1) cap := by
  rcases h.2 with ⟨_, h0⟩ | ⟨g, cap, cur, rfl, _⟩
  · omega
  · exact ⟨g, cap, rfl⟩
/-- what the changes so far are: a row that the box b leads to; the nodes' bytes are younger than the box -/
structure OutC (tC tS : TypeId) (w0 w : World) (b : Nat) (v : Value) (o : List Chg) : Prop where
  row : w.heap[b]? = some (.cells #[v] tS (0, 0))
  own : OwnChgs tC w (b + 1) v o
  fresh : ∀ c ∈ o, ∀ a, c.node.da = some a → b < a.block
  low : w0.heap.size ≤ b
  bel : Below w0.heap.size w0 w
section
variable {tC tS : TypeId} {w0 w w' w4 : World} {b : Nat} {v v4 : Value} {o : List Chg}
theorem OutC.lt (h : OutC tC tS w0 w b v o) : b < w.heap.size := (Array.getElem?_eq_some_iff.1 h.row).1
theorem OutC.below (h : OutC tC tS w0 w b v o) (hb : Below w.heap.size w w') : OutC tC tS w0 w' b v o :=
  ⟨(hb.block b h.lt).trans h.row, h.own.below hb, h.fresh, h.low, h.bel.trans (hb.mono h.bel.size)⟩
theorem OutC.cell (h : OutC tC tS w0 w b v o) : w.cell? ⟨b, 0, none⟩ = some v := by rw [cell_of_row w b 0 _ tS (0, 0) h.row]; rfl
theorem OutC.free (h : OutC tC tS w0 w b v o) : w.frozen? ⟨b, 0, none⟩ = false := frozen_of_row w b 0 _ tS h.row
theorem OutC.ne (h : OutC tC tS w0 w b v o) : v.ownBlock ≠ some b := fun e => by have := (World.ownsRow.lt h.own.1 b e).1; omega
theorem OutC.row4 (h : OutC tC tS w0 w b v o) (hg : w.grownBy w4 v.ownBlock) : w4.heap[b]? = some (.cells #[v] tS (0, 0)) :=
  (by obtain ⟨a1, a2, a3, a4, a5⟩ := hg; exact (a5 b h.lt (fun e => h.ne e.symm)).trans h.row)
theorem OutC.cell4 (h : OutC tC tS w0 w b v o) (hg : w.grownBy w4 v.ownBlock) : w4.cell? ⟨b, 0, none⟩ = some v := by rw [cell_of_row w4 b 0 _ tS (0, 0) (h.row4 hg)]; rfl
theorem OutC.free4 (h : OutC tC tS w0 w b v o) (hg : w.grownBy w4 v.ownBlock) : w4.frozen? ⟨b, 0, none⟩ = false := frozen_of_row w4 b 0 _ tS (h.row4 hg)
theorem fresh_node {wr W : World} {v : Value} {x : Nod} {da : Option Addr} {dc : Nat} (o : Obj) (hlt : ∀ g, v.ownBlock = some g → g < wr.heap.size) (hx : x.Ok maxLen wr) (hsl : SliceC maxLen 1 ByteC W [.slice da x.data.length dc] x.data) (hbl : ∀ a, da = some a → wr.heap.size ≤ a.block) : NodIn (W.alloc o) v (x.at da dc) := by
  refine ⟨Nod.at_ok hx (hsl.below (fun _ _ h => h) ((Below.refl _ _).alloc (Nat.le_refl _) o)), fun a _ ha e => ?_⟩
  have h1 := hbl a ha
  have h2 := hlt _ e
  omega
theorem OutC.put (h : OutC tC tS w0 w b v o) {k : Int} {n : Nod} (hx : ChgIn w v ⟨k, n⟩) (hn : ∀ a, n.da = some a → b < a.block)
    (ho : w4.ownsRow (b + 1) tC 13 v4 (o.length + 1) (o.flatMap Chg.cells ++ [⟨k, n⟩].flatMap Chg.cells)) (hg : w.grownBy w4 v.ownBlock) (hv : v4.ownBlock = v.ownBlock ∨ ∃ g, v4.ownBlock = some g ∧ w.heap.size ≤ g) :
    OutC tC tS w0 (w4.setCell ⟨b, 0, none⟩ v4) b v4 (o ++ [⟨k, n⟩]) := by
  have own4 := h.own.app (m := [⟨k, n⟩]) (fun y hy => by rw [List.mem_singleton.1 hy]; exact hx) ho hg hv
  have hf4 : ∀ c ∈ o ++ [⟨k, n⟩], ∀ a, c.node.da = some a → b < a.block := by
    intro c hc a ha
    rcases List.mem_append.1 hc with h1 | h1
    · exact h.fresh c h1 a ha
    · rw [List.mem_singleton.1 h1] at ha; exact hn a ha
  have hne4 : v4.ownBlock ≠ some b := fun e => by have := (World.ownsRow.lt own4.1 b e).1; omega
  have hgs := grownBy_setCell w4 b 0 v4
  refine ⟨?_, ⟨ownsRow_else _ own4.1 hne4, fun c hc => ?_⟩, hf4, h.low, ?_⟩
  · rw [heap_setCell_same w4 b 0 _ tS _ (h.row4 hg)]; rfl
  · obtain ⟨h1, h2, h3⟩ := own4.2 c hc
    exact ⟨h1, h2.grown hgs (fun p _ hp e => by have := hf4 c hc p hp; simp only [Option.some.injEq] at e; omega), h3⟩
  · refine Below.setCell ?_ (p := ⟨b, 0, none⟩) h.low v4
    exact h.bel.grown hg h.bel.size (fun k hk => by have := (World.ownsRow.lt h.own.1 k hk).1; have := h.low; omega)
end
/-- the cells of a change in a box as a source -/
theorem src_chg {P : Program} (w : World) {n : Nat} (hn : n = w.heap.size) (tx e' e : TypeId) (hk : P.underlying tx = some (.slice e')) (k : Int) (x : Nod) : Src P 13 tx (.slice (some ⟨n, 0, none⟩) 1 1) 1 ([(⟨k, x⟩ : Chg)].flatMap Chg.cells) (w.alloc (.cells #[.int .i64 k, .string x.path, .int .i64 x.kind, .int .i64 x.same, .string x.target, .int .i64 x.mt.mode, .int .i64 x.mt.uid, .int .i64 x.mt.gid, .string x.mt.user, .string x.mt.group, .int .i64 x.mt.second, .int .i64 x.mt.nano, .slice x.da x.data.length x.dcap] e)) := by
  subst hn
  refine Src.ofSlice _ hk ⟨w.heap.size, 0, none⟩ 1 1 _ rfl (fun j u hu => ?_) (fun u hu => ?_)
  · have hj : j < 13 := by
      rcases Nat.lt_or_ge j 13 with h | h
      · exact h
      · rw [List.getElem?_eq_none (by simpa [Chg.cells, Nod.cells] using h)] at hu; cases hu
    have e : (⟨w.heap.size, 0, none⟩ : Addr).add j = ⟨w.heap.size, j, none⟩ := by unfold Addr.add; split <;> simp_all
    rw [e, World.cell?_alloc_new]
    simpa [Chg.cells, Nod.cells] using hu
  · simp [Chg.cells, Nod.cells] at hu
    rcases hu with rfl | rfl | rfl | rfl | rfl | rfl | rfl | rfl | rfl | rfl | rfl | rfl | rfl <;> rfl
end Go.Creel
namespace Go.Proofs.YtaffgndickdbiaaDoor
set_option linter.unusedVariables false
set_option linter.unusedSimpArgs false
open Go.Creel Go.RowKit
abbrev tChg : TypeId := 62
abbrev tChgs : TypeId := 23
theorem info_chg : (Tryd.prog.info? 62).map (fun i => (i.zero, i.size, i.bytes)) = some (some (.agg #[.int .i64 0, .string ⟨#[]⟩, .int .i64 0, .int .i64 0, .string ⟨#[]⟩, .int .i64 0, .int .i64 0, .int .i64 0, .string ⟨#[]⟩, .string ⟨#[]⟩, .int .i64 0, .int .i64 0, .slice none 0 0]), 13, 152) := by kernel_rfl
set_option maxRecDepth 100000 in
set_option maxHeartbeats 4000000 in
theorem Note_any (b : Nat) (k : Int) (x : Nod) (w0 w : World) (v : Value) (o : List Chg) (h : OutC tChg tChgs w0 w b v o) (hk : i64 k) (hx : x.Ok maxLen w) (hxl : x.data.length ≤ 140737488355328) (hol : o.length ≤ 1000000) :
    Calls Tryd.prog 30 #[.int .i64 k, x.val, .pointer (some ⟨b, 0, none⟩)] w fun e w' => e = .returned (.tuple #[]) ∧ ∃ v' n, n.bare = x.bare ∧ OutC tChg tChgs w0 w' b v' (o ++ [⟨k, n⟩]) := by
  obtain ⟨i0, hi, hz0, hz1, hz2⟩ := info_parts info_chg
  have HI := Lib.hid (And.intro hi (And.intro hz0 (And.intro hz1 hz2)))
  clear hi hz0 hz1 hz2
  obtain ⟨i1, hi, hz0, hz1, hz2⟩ := info_parts info_byte
  have HJ := Lib.hid (And.intro hi (And.intro hz0 (And.intro hz1 hz2)))
  have H := Lib.hid h
  have HX := Lib.hid hx
  have HK := Lib.hid hk
  have hbx := (Below.refl w.heap.size w).alloc (Nat.le_refl _) (boxOf x)
  have HBX := Lib.hid hbx
  have hlt := h.lt
  have hne1 : b ≠ w.heap.size := by omega
  have hne2 : w.heap.size ≠ b := by omega
  have hxd : SliceC maxLen 1 ByteC (w.alloc (boxOf x)) [.slice x.da x.data.length x.dcap] x.data := hx.data.below (fun _ _ h => h) hbx
  have happ : ∀ ty, AppTo Tryd.prog (w.alloc (boxOf x)) 38 38 ty (.slice none 0 0) (.slice x.da x.data.length x.dcap) (w.alloc (boxOf x)).heap.size 5 1 0 x.data.length [] (x.data.map byteV) := fun ty => app_bytes (l := []) (w.alloc (boxOf x)) 38 38 5 5 i1 Tryd.underlying38 Tryd.underlying38 HJ.out.1 HJ.out.2.1 HJ.out.2.2.1 HJ.out.2.2.2 (OwnBs.nil _ _ _) hxd (by simp; omega) (Nat.le_refl _) ty
  have HAPP := Lib.hid happ
  clear happ hbx hxd hi hz0 hz1 hz2 h hx hk
  go_enter Tryd.func30, Tryd.ntmps30
  go_upto_region 2 with (at_builtin; refine wpList_app _ rfl (.const (.slice none 0 0)) (.tmp 6) 38 38 rfl _ _ rfl rfl HAPP.out ?_; intro v1 w2 ho hg _; obtain ⟨da, dc, rfl, HP2⟩ := copied_bytes (by unfold maxLen; omega) ho hg; obtain ⟨⟨c0, c1, c2, c3, c4, c5, c6, c7, c8, c9, c10, c11⟩, hfz, _⟩ := HP2.out; simp only [Nat.zero_add] at c1 c2 c3 c4 c5 c6 c7 c8 c9 c10 c11; clear ho hg)
  have H2 := Lib.hid (H.out.below HP2.out.2.2.1)
  have d0 := H2.out.cell
  rw [World.cell?_setCell_other _ _ _ _ (fun e => hne2 (congrArg Addr.block e))] at d0
  have H3 := Lib.hid (H2.out.below ((Below.refl _ _).alloc (Nat.le_refl _) (.cells #[.int .i64 k, .string x.path, .int .i64 x.kind, .int .i64 x.same, .string x.target, .int .i64 x.mt.mode, .int .i64 x.mt.uid, .int .i64 x.mt.gid, .string x.mt.user, .string x.mt.group, .int .i64 x.mt.second, .int .i64 x.mt.nano, .slice da x.data.length dc] tChg)))
  have HN3 := Lib.hid (show ChgIn _ v ⟨k, x.at da dc⟩ from ⟨HK.out, fresh_node (.cells #[.int .i64 k, .string x.path, .int .i64 x.kind, .int .i64 x.same, .string x.target, .int .i64 x.mt.mode, .int .i64 x.mt.uid, .int .i64 x.mt.gid, .string x.mt.user, .string x.mt.group, .int .i64 x.mt.second, .int .i64 x.mt.nano, .slice da x.data.length dc] tChg) (fun g e => (World.ownsRow.lt H.out.own.1 g e).2) HX.out HP2.out.2.2.2.1 HP2.out.2.2.2.2⟩)
  go_wp2_with (at_builtin; refine wpList_app _ rfl (.tmp 9) (.tmp 13) 23 23 rfl _ _ rfl rfl (fun ty => app_src _ 23 23 ty (b + 1) 62 i0 _ 13 152 Tryd.underlying23 HI.out.1 HI.out.2.1 HI.out.2.2.1 HI.out.2.2.2 rfl (by decide) _ _ o.length 1 _ _ H3.out.own.1 (src_chg _ (show w2.heap.size = _ by simp) _ _ _ Tryd.underlying23 k (x.at da dc)) (by unfold maxLen; omega) (by omega) H3.out.lt) ?_; intro v4 w4 ho2 hg2 hv2; have HZ := Lib.hid (And.intro ho2 (And.intro hg2 hv2.2)); have e1 := H3.out.cell4 hg2; have e2 := H3.out.free4 hg2; obtain ⟨g4, cp4, rfl⟩ := ownsRow_form ho2; clear ho2 hg2 hv2)
  go_end0
  exact ⟨rfl, _, x.at da dc, rfl, H3.out.put HN3.out (fun a ha => by have := HP2.out.2.2.2.2 a ha; omega) HZ.out.1 HZ.out.2.1 HZ.out.2.2⟩
end Go.Proofs.YtaffgndickdbiaaDoor
