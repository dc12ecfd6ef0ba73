/-
  plan.Tree.
-/
import Derived.Test.YtiiojjhfncefgaaDoorGrow
import Derived.Test.YtiiojjhfncefgaaDoorEntsCheck
import Derived.Test.YtiiojjhfncefgaaDoorNodsPut
namespace Go.Creel
set_option linter.unusedVariables false
set_option linter.unusedSimpArgs false
open Go.RowKit
theorem Ent.nod_ok {w : World} {x : Ent} (h : x.Ok maxLen w) {s : Int} (hs : i64 s) : (x.nod s).Ok maxLen w := ⟨h.path, h.kind, hs, h.target, h.mt, h.data⟩
theorem growN_ok {w : World} {l : List Ent} (hz : entsFault l = 0) (hok : ∀ i, i < l.length → (ek l i).Ok maxLen w) {q i : Nat} (hi : i < l.length) : (growN l q i).Ok maxLen w := by
  have hfew := (entsFault_all hz).1
  by_cases hk : (ek l i).kind = 4
  · obtain ⟨h1, _⟩ := link_facts hz hi hk
    rw [growN_link hk]
    have h2 := Ent.nod_ok (hok _ (show linkAt l i < l.length by omega)) (s := (linkAt l i : Int) + 1) (by unfold i64; omega)
    exact ⟨(hok i hi).path, h2.kind, h2.same, h2.target, h2.mt, h2.data⟩
  · rw [growN_file hk]
    exact Ent.nod_ok (hok i hi) (by unfold i64; split <;> omega)
theorem growL_ok {w : World} {l : List Ent} (hz : entsFault l = 0) (hok : ∀ i, i < l.length → (ek l i).Ok maxLen w) {q : Nat} (hq : q ≤ l.length) : ∀ x, x ∈ growL l q → x.Ok maxLen w := by
  intro x hx
  obtain ⟨i, hi, rfl⟩ := List.mem_map.1 hx
  exact growN_ok hz hok (by have := List.mem_range.1 hi; omega)
theorem own_kept {t : TypeId} {w0 W W' : World} {B : Nat} {v : Value} {l : List Nod} {row : Option Nat} (h : OwnNods t W B v l) (hg : W.grownBy W' row) (hne : v.ownBlock = none ∨ v.ownBlock ≠ row) (hx : ∀ x, x ∈ l → x.Ok maxLen w0) (hb : Below w0.heap.size w0 W') : OwnNods t W' B v l :=
  ⟨World.ownsRow.kept h.1 hg hne, fun x hxl => ⟨(hx x hxl).below hb, (h.2 x hxl).2⟩⟩
theorem box_own {t : TypeId} {w0 w : World} {x : Nod} (hx : x.Ok maxLen w0) (hb : Below w0.heap.size w0 w) : OwnNods t (w.alloc (.cells #[.string x.path, .int .i64 x.kind, .int .i64 x.same, .string x.target, .int .i64 x.mt.mode, .int .i64 x.mt.uid, .int .i64 x.mt.gid, .string x.mt.user, .string x.mt.group, .int .i64 x.mt.second, .int .i64 x.mt.nano, .slice x.da x.data.length x.dcap] t)) w.heap.size (.slice (some ⟨w.heap.size, 0, none⟩) 1 1) [x] := by
  refine ⟨⟨rfl, .inr ⟨w.heap.size, 1, _, rfl, Nat.le_refl _, heap_alloc_new w _, Nat.le_refl _, by unfold maxLen; omega, rfl, rfl⟩⟩, fun y hy => ?_⟩
  rw [List.mem_singleton.1 hy]
  refine ⟨(hx.below hb).below ((Below.refl _ _).alloc (Nat.le_refl _) _), fun a hp ha e => ?_⟩
  have h1 := hx.lt a hp ha
  have h2 := hb.size
  simp [Value.ownBlock] at e
  omega
theorem setNode_grown (w : World) (g o : Nat) (x : Nod) : w.grownBy (setNode w g o x) (some g) :=
  grownBy_trans (grownBy_trans (grownBy_trans (grownBy_trans (grownBy_trans (grownBy_trans (grownBy_trans (grownBy_trans (grownBy_trans (grownBy_trans (grownBy_trans (grownBy_setCell _ _ _ _) (grownBy_setCell _ _ _ _)) (grownBy_setCell _ _ _ _)) (grownBy_setCell _ _ _ _)) (grownBy_setCell _ _ _ _)) (grownBy_setCell _ _ _ _)) (grownBy_setCell _ _ _ _)) (grownBy_setCell _ _ _ _)) (grownBy_setCell _ _ _ _)) (grownBy_setCell _ _ _ _)) (grownBy_setCell _ _ _ _)) (grownBy_setCell _ _ _ _)
theorem box_put {t : TypeId} {W : World} {B b : Nat} {x y : Nod} (h : OwnNods t W B (.slice (some ⟨b, 0, none⟩) 1 1) [x]) (hy : NodIn W (.slice (some ⟨b, 0, none⟩) 1 1) y) (p : ByteArray) (hp : p.size ≤ maxLen) :
    OwnNods t ((setNode W b 0 y).setCell ⟨b, 0, none⟩ (.string p)) B (.slice (some ⟨b, 0, none⟩) 1 1) [{ y with path := p }] ∧ W.grownBy ((setNode W b 0 y).setCell ⟨b, 0, none⟩ (.string p)) (some b) := by
  have h1 := h.putNode (k := 0) (n := 1) rfl (by omega) hy
  simp only [Nat.zero_mul, Nat.zero_add, List.set_cons_zero] at h1
  have h2 := OwnNods.put (l := [y]) (k := 0) (j := 0) h1.1 (by simp) (by omega) { y with path := p } (.string p) rfl ⟨⟨hp, (h1.1.2 y (by simp)).1.kind, (h1.1.2 y (by simp)).1.same, (h1.1.2 y (by simp)).1.target, (h1.1.2 y (by simp)).1.mt, (h1.1.2 y (by simp)).1.data⟩, hy.2⟩
  exact ⟨h2.1, grownBy_trans h1.2 (grownBy_setCell _ _ _ _)⟩
theorem EntAt.grown {w w' : World} {b o : Nat} {x : Ent} {row : Option Nat} (h : EntAt w b o x) (hg : w.grownBy w' row) (hne : some b ≠ row) : EntAt w' b o x := by
  obtain ⟨h0, h1, h2, h3, h4, h5, h6, h7, h8, h9, h10⟩ := h
  exact ⟨hg.cell h0 hne, hg.cell h1 hne, hg.cell h2 hne, hg.cell h3 hne, hg.cell h4 hne, hg.cell h5 hne, hg.cell h6 hne, hg.cell h7 hne, hg.cell h8 hne, hg.cell h9 hne, hg.cell h10 hne⟩
theorem MapIs.grown {κ : Type} [DecidableEq κ] {mk : κ → Value} {w w' : World} {b : Nat} {l : List (κ × Value)} {row : Option Nat} (h : MapIs mk w b l) (hg : w.grownBy w' row) (hne : some b ≠ row) : MapIs mk w' b l := h.of_heap (hg.block b h.lt hne)
theorem growL_dat {l : List Ent} (hz : entsFault l = 0) : ∀ i, i < (treeGrown l).length → (nk (treeGrown l) i).data.length ≤ 140737488355328 := by
  intro i hi
  unfold treeGrown at hi ⊢
  rw [growL_len] at hi
  rw [growL_at l hi]
  have hd : ∀ j, j < l.length → (ek l j).data.length ≤ 2000 := fun j hj => (entFault_size (stepE_zero ((entsFault_all hz).2 j hj)).1).1
  by_cases hk : (ek l i).kind = 4
  · obtain ⟨h1, _⟩ := link_facts hz hi hk
    rw [growN_link hk]
    exact Nat.le_trans (hd _ (show linkAt l i < l.length by omega)) (by omega)
  · rw [growN_file hk]
    exact Nat.le_trans (hd i hi) (by omega)
abbrev entBox (t : TypeId) (x : Ent) : Obj := .cells #[.string x.path, .int .i64 x.kind, .string x.target, .int .i64 x.mt.mode, .int .i64 x.mt.uid, .int .i64 x.mt.gid, .string x.mt.user, .string x.mt.group, .int .i64 x.mt.second, .int .i64 x.mt.nano, .slice x.da x.data.length x.dcap] t
abbrev nodBox (t : TypeId) (x : Nod) : Obj := .cells #[.string x.path, .int .i64 x.kind, .int .i64 x.same, .string x.target, .int .i64 x.mt.mode, .int .i64 x.mt.uid, .int .i64 x.mt.gid, .string x.mt.user, .string x.mt.group, .int .i64 x.mt.second, .int .i64 x.mt.nano, .slice x.da x.data.length x.dcap] t
/-- the two boxes of a round, behind their laying -/
structure TwoAt (te tn : TypeId) (w0 wr W : World) (mb b1 : Nat) (v : Value) (m : List (ByteArray × Value)) (x : Ent) (c : List Nod) : Prop where
  own : OwnNods tn W (mb + 1) v c
  box : OwnNods tn W (b1 + 1) (.slice (some ⟨b1 + 1, 0, none⟩) 1 1) [x.nod 0]
  map : MapIs (fun s : ByteArray => Value.string s) W mb m
  below : Below w0.heap.size w0 W
  ent : EntAt W b1 0 x
  apart : ∀ j, v.ownBlock = some j → j < b1
  mblt : mb < b1
theorem TwoAt.made {te tn : TypeId} {w0 wr : World} {mb : Nat} {v : Value} {m : List (ByteArray × Value)} {x : Ent} {c : List Nod} (hx : x.Ok maxLen w0) (hown : OwnNods tn wr (mb + 1) v c) (hb : Below w0.heap.size w0 wr) (hm : MapIs (fun s : ByteArray => Value.string s) wr mb m) :
    TwoAt te tn w0 wr ((wr.alloc (entBox te x)).alloc (nodBox tn (x.nod 0))) mb wr.heap.size v m x c := by
  have h1 : Below wr.heap.size wr (wr.alloc (entBox te x)) := (Below.refl _ _).alloc (Nat.le_refl _) _
  have hs : (wr.alloc (entBox te x)).heap.size = wr.heap.size + 1 := by simp
  have h2 : Below wr.heap.size wr ((wr.alloc (entBox te x)).alloc (nodBox tn (x.nod 0))) := h1.alloc (by omega) _
  refine ⟨hown.below h2, ?_, hm.below h2 hm.lt, hb.trans (h2.mono hb.size), (entAt_box wr x te).below ((Below.refl _ _).alloc (Nat.le_refl _) _), fun j hj => (World.ownsRow.lt hown.1 j hj).2, hm.lt⟩
  have := box_own (t := tn) (w0 := w0) (w := wr.alloc (entBox te x)) (x := x.nod 0) (Ent.nod_ok hx (by unfold i64; omega)) (hb.trans (h1.mono hb.size))
  rw [hs] at this
  exact this
/-- the state ahead of the map's write: the members' trees so far, and the new node in its box -/
structure GrowAt (t : TypeId) (w0 wx : World) (l : List Ent) (k mb b1 b2 : Nat) (v : Value) (m : List (ByteArray × Value)) (z : Nod) (c : List Nod) : Prop where
  all : growL l (k + 1) = c ++ [z]
  len : c.length = k
  own : OwnNods t wx (mb + 1) v c
  box : OwnNods t wx b2 (.slice (some ⟨b2, 0, none⟩) 1 1) [z]
  inn : NodIn wx v z
  map : MapIs (fun s : ByteArray => Value.string s) wx mb m
  below : Below w0.heap.size w0 wx
  ent : EntAt wx b1 0 (ek l k)
  apart : ∀ j, v.ownBlock = some j → j < b1
theorem nodIn_ok {t : TypeId} {w0 W : World} {v : Value} {c : List Nod} {x : Nod} {B : Nat} (hx : x.Ok maxLen w0) (hb : Below w0.heap.size w0 W) (hown : OwnNods t W B v c) (hB : w0.heap.size ≤ B) : NodIn W v x :=
  nodIn_arg hx hb (hown.mono hB)
/-- between: a link's target is in the box, or will be -/
structure LinkSt (tn : TypeId) (w0 W : World) (l : List Ent) (k q mb b1 g cap : Nat) (m : List (ByteArray × Value)) (x : Ent) (y z : Nod) (c : List Nod) : Prop where
  all : growL l (k + 1) = c ++ [{ y with path := x.path }]
  len : c.length = k
  own : OwnNods tn W (mb + 1) (.slice (some ⟨g, 0, none⟩) k cap) c
  aty : nk c q = y
  yok : y.Ok maxLen w0
  zok : z.Ok maxLen w0
  cok : ∀ n, n ∈ c → n.Ok maxLen w0
  box : OwnNods tn W (b1 + 1) (.slice (some ⟨b1 + 1, 0, none⟩) 1 1) [z]
  map : MapIs (fun s : ByteArray => Value.string s) W mb m
  below : Below w0.heap.size w0 W
  ent : EntAt W b1 0 x
  gmb : mb < g
  gb1 : g < b1
theorem LinkSt.begin {te tn : TypeId} {w0 wr W : World} {l : List Ent} {k q mb b1 g cap : Nat} {m : List (ByteArray × Value)} {x : Ent} {N : Nod} (h : TwoAt te tn w0 wr W mb b1 (.slice (some ⟨g, 0, none⟩) k cap) m x (growL l k)) (hw : w0.heap.size ≤ mb) (hx : x.Ok maxLen w0)
    (hq : q < k) (hN : nk (growL l k) q = N) (hall : growL l (k + 1) = (growL l k).set q { N with same := (q : Int) + 1 } ++ [{ N with same := (q : Int) + 1, path := x.path }]) (hok : ∀ n, n ∈ growL l (k + 1) → n.Ok maxLen w0) (hqk : (q : Int) + 1 ≤ 1000) :
    LinkSt tn w0 (W.setCell ⟨g, q * 12 + 2, none⟩ (.int .i64 ((q : Int) + 1))) l k q mb b1 g cap m x { N with same := (q : Int) + 1 } (x.nod 0) ((growL l k).set q { N with same := (q : Int) + 1 }) := by
  subst hN
  have hs : i64 ((q : Int) + 1) := by unfold i64; omega
  obtain ⟨h1, h2, h3, h4⟩ := h.own.putSame (growL_len l k) hq _ hs
  have hg : W.grownBy (W.setCell ⟨g, q * 12 + 2, none⟩ (.int .i64 ((q : Int) + 1))) (some g) := grownBy_setCell _ _ _ _
  have hap := h.apart g rfl
  have hb : Below w0.heap.size w0 (W.setCell ⟨g, q * 12 + 2, none⟩ (.int .i64 ((q : Int) + 1))) := h.below.setCell (p := ⟨g, q * 12 + 2, none⟩) (by show w0.heap.size ≤ g; omega) _
  have hl : (growL l k).length = k := growL_len l k
  refine ⟨hall, by rw [List.length_set, hl], h1, by rw [nk_set (by omega), if_pos rfl], hok _ (by rw [hall]; exact List.mem_append_left _ (List.mem_set (by omega) _)), Ent.nod_ok hx (by unfold i64; omega), fun n hn => hok n (by rw [hall]; exact List.mem_append_left _ hn),
    own_kept h.box hg (.inr (by simp [Value.ownBlock]; omega)) (fun n hn => by rw [List.mem_singleton.1 hn]; exact Ent.nod_ok hx (by unfold i64; omega)) hb, h.map.grown hg (by simp; omega), hb, h.ent.grown hg (by simp; omega), by omega, hap⟩
abbrev setNode0 (w : World) (g : Nat) (x : Nod) : World := (((((((((((w.setCell ⟨g, 0, none⟩ (.string x.path)).setCell ⟨g, 1, none⟩ (.int .i64 x.kind)).setCell ⟨g, 2, none⟩ (.int .i64 x.same)).setCell ⟨g, 3, none⟩ (.string x.target)).setCell ⟨g, 4, none⟩ (.int .i64 x.mt.mode)).setCell ⟨g, 5, none⟩ (.int .i64 x.mt.uid)).setCell ⟨g, 6, none⟩ (.int .i64 x.mt.gid)).setCell ⟨g, 7, none⟩ (.string x.mt.user)).setCell ⟨g, 8, none⟩ (.string x.mt.group)).setCell ⟨g, 9, none⟩ (.int .i64 x.mt.second)).setCell ⟨g, 10, none⟩ (.int .i64 x.mt.nano)).setCell ⟨g, 11, none⟩ (.slice x.da x.data.length x.dcap)
theorem LinkSt.copied {tn : TypeId} {w0 W : World} {l : List Ent} {k q mb b1 g cap : Nat} {m : List (ByteArray × Value)} {x : Ent} {y z : Nod} {c : List Nod} (h : LinkSt tn w0 W l k q mb b1 g cap m x y z c) (hw : w0.heap.size ≤ mb) :
    LinkSt tn w0 (setNode0 W (b1 + 1) y) l k q mb b1 g cap m x y y c := by
  have h1 := h.gmb
  have h2 := h.gb1
  have hp := h.box.putNode (k := 0) (n := 1) rfl (by omega) (nodIn_ok h.yok h.below h.box (by omega))
  simp only [Nat.zero_mul, Nat.zero_add, List.set_cons_zero] at hp
  obtain ⟨hbx, hg⟩ := hp
  have hb : Below w0.heap.size w0 (setNode0 W (b1 + 1) y) := h.below.grown hg (h.below.size) (fun j hj => by cases hj; omega)
  exact ⟨h.all, h.len, own_kept h.own hg (.inr (by simp [Value.ownBlock]; omega)) h.cok hb, h.aty, h.yok, h.yok, h.cok, hbx, h.map.grown hg (by simp; omega), hb, h.ent.grown hg (by simp), h.gmb, h.gb1⟩
theorem LinkSt.named {tn : TypeId} {w0 W : World} {l : List Ent} {k q mb b1 g cap : Nat} {m : List (ByteArray × Value)} {x : Ent} {y : Nod} {c : List Nod} (h : LinkSt tn w0 W l k q mb b1 g cap m x y y c) (hw : w0.heap.size ≤ mb) (hx : ek l k = x) (hxo : x.Ok maxLen w0) :
    GrowAt tn w0 (W.setCell ⟨b1 + 1, 0, none⟩ (.string x.path)) l k mb b1 (b1 + 1) (.slice (some ⟨g, 0, none⟩) k cap) m { y with path := x.path } c := by
  have h1 := h.gmb
  have h2 := h.gb1
  have hg : W.grownBy (W.setCell ⟨b1 + 1, 0, none⟩ (.string x.path)) (some (b1 + 1)) := grownBy_setCell _ _ _ _
  have hb : Below w0.heap.size w0 (W.setCell ⟨b1 + 1, 0, none⟩ (.string x.path)) := h.below.grown hg h.below.size (fun j hj => by cases hj; omega)
  have hyo : ({ y with path := x.path } : Nod).Ok maxLen w0 := ⟨hxo.path, h.yok.kind, h.yok.same, h.yok.target, h.yok.mt, h.yok.data⟩
  have hbx := OwnNods.put (l := [y]) (k := 0) (j := 0) h.box (by simp) (by omega) { y with path := x.path } (.string x.path) rfl (nodIn_ok hyo h.below h.box (by omega))
  have hov := own_kept h.own hg (.inr (by simp [Value.ownBlock]; omega)) h.cok hb
  exact ⟨h.all, h.len, hov, hbx.1, nodIn_ok hyo hb hov (by omega), h.map.grown hg (by simp; omega), hb, by rw [hx]; exact h.ent.grown hg (by simp), fun j hj => by simp [Value.ownBlock] at hj; omega⟩
end Go.Creel
namespace Go.Proofs.YtiiojjhfncefgaaDoor
set_option linter.unusedVariables false
set_option linter.unusedSimpArgs false
open Go.Creel Go.RowKit
theorem place_look {l : List Ent} {k mb : Nat} {m : List (ByteArray × Value)} {w : World} (hm : MapIs (fun s : ByteArray => Value.string s) w mb m) (h : PlaceIs l k m) (s : ByteArray) (hs : entFind (l.take k) s < k) :
    (Instr.lookup 86 (.map (some mb)) (.string s) false).run Tryd.prog w = .ok (.int .i64 (entFind (l.take k) s)) w :=
  hm.look_some keyOn_str (t := 86) (k := 9) (e := 3) Tryd.underlying86 Tryd.underlying9 (by rw [h s, if_pos hs]) false
end Go.Proofs.YtiiojjhfncefgaaDoor
