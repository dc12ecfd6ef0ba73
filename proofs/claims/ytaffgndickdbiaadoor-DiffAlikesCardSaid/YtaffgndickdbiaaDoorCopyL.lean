/-
  tree.Copy.
-/
import Derived.Test.YtaffgndickdbiaaDoorSameTree
namespace Go.Creel
set_option linter.unusedVariables false
set_option linter.unusedSimpArgs false
open Go.RowKit
/-- where the copy's bytes lie -/
theorem ownBs_parts {t : TypeId} {w : World} {B : Nat} {v : Value} {l : List UInt8} (h : OwnBs t w B v l) (hl : l.length ≤ maxLen) : ∃ da dcap, v = .slice da l.length dcap ∧ SliceC maxLen 1 ByteC w [.slice da l.length dcap] l ∧ ∀ a, da = some a → B ≤ a.block := by
  rcases h.form with ⟨rfl, rfl⟩ | ⟨g, cap, rfl, hg⟩
  · exact ⟨none, 0, rfl, h.slice hl, fun a ha => by cases ha⟩
  · refine ⟨_, _, rfl, h.slice hl, fun a ha => ?_⟩
    cases ha
    exact (World.ownsRow.lt hg g rfl).1
theorem grownBy_setCell (w : World) (g o : Nat) (u : Value) : w.grownBy (w.setCell ⟨g, o, none⟩ u) (some g) :=
  ⟨rfl, rfl, rfl, by simp, fun k _ hk => heap_setCell_other w ⟨g, o, none⟩ k u (fun e => hk (by simp [e]))⟩
theorem bare_take {l c : List Nod} {k : Nat} {y : Nod} (h : c.map Nod.bare = (l.take k).map Nod.bare) (hk : k < l.length) (hy : y.bare = (nk l k).bare) : (c ++ [y]).map Nod.bare = (l.take (k + 1)).map Nod.bare := by
  rw [List.map_append, h, List.take_succ_eq_append_getElem hk, List.map_append]
  rw [nk_eq hk] at hy
  simp [hy]
/-- the node, its bytes elsewhere -/
def Nod.at (x : Nod) (a : Option Addr) (c : Nat) : Nod := { x with da := a, dcap := c }
theorem Nod.at_ok {w : World} {x : Nod} {a : Option Addr} {c : Nat} (h : x.Ok maxLen w) {w' : World} (hd : SliceC maxLen 1 ByteC w' [.slice a x.data.length c] x.data) : (x.at a c).Ok maxLen w' := ⟨h.path, h.kind, h.same, h.target, h.mt, hd⟩
/-- what is known behind the copy of a node's bytes, the node in a box -/
theorem copied_bytes {t : TypeId} {wr w2 : World} {v1 : Value} {x : Nod} {ty : TypeId} (hd : x.data.length ≤ maxLen)
    (ho : w2.ownsRow (wr.alloc (.cells #[.string x.path, .int .i64 x.kind, .int .i64 x.same, .string x.target, .int .i64 x.mt.mode, .int .i64 x.mt.uid, .int .i64 x.mt.gid, .string x.mt.user, .string x.mt.group, .int .i64 x.mt.second, .int .i64 x.mt.nano, .slice x.da x.data.length x.dcap] ty)).heap.size t 1 v1 (0 + x.data.length) ([] ++ x.data.map byteV))
    (hg : (wr.alloc (.cells #[.string x.path, .int .i64 x.kind, .int .i64 x.same, .string x.target, .int .i64 x.mt.mode, .int .i64 x.mt.uid, .int .i64 x.mt.gid, .string x.mt.user, .string x.mt.group, .int .i64 x.mt.second, .int .i64 x.mt.nano, .slice x.da x.data.length x.dcap] ty)).grownBy w2 (Value.ownBlock (.slice none 0 0))) :
    ∃ da dc, v1 = .slice da x.data.length dc ∧ Hid (NodAt w2 wr.heap.size 0 x ∧ w2.frozen? ⟨wr.heap.size, 11, none⟩ = false ∧ Below wr.heap.size wr (w2.setCell ⟨wr.heap.size, 11, none⟩ (.slice da x.data.length dc)) ∧
      SliceC maxLen 1 ByteC (w2.setCell ⟨wr.heap.size, 11, none⟩ (.slice da x.data.length dc)) [.slice da x.data.length dc] x.data ∧ ∀ a, da = some a → wr.heap.size ≤ a.block) := by
  obtain ⟨da, dc, hv, hsl, hbl⟩ := ownBs_parts (show OwnBs _ _ _ _ x.data from OwnBs.app (l := []) ho) hd
  have hlt1 : wr.heap.size < (wr.alloc (.cells #[.string x.path, .int .i64 x.kind, .int .i64 x.same, .string x.target, .int .i64 x.mt.mode, .int .i64 x.mt.uid, .int .i64 x.mt.gid, .string x.mt.user, .string x.mt.group, .int .i64 x.mt.second, .int .i64 x.mt.nano, .slice x.da x.data.length x.dcap] ty)).heap.size := by simp
  have hb1 := (Below.refl wr.heap.size wr).alloc (Nat.le_refl _) (.cells #[.string x.path, .int .i64 x.kind, .int .i64 x.same, .string x.target, .int .i64 x.mt.mode, .int .i64 x.mt.uid, .int .i64 x.mt.gid, .string x.mt.user, .string x.mt.group, .int .i64 x.mt.second, .int .i64 x.mt.nano, .slice x.da x.data.length x.dcap] ty)
  have hb2 := (Below.refl _ _).grown hg (Nat.le_refl _) (fun k hk => by simp [Value.ownBlock] at hk)
  have hg3 := grownBy_setCell w2 wr.heap.size 11 (.slice da x.data.length dc)
  refine ⟨da, dc, hv, Lib.hid ⟨(nodAt_box wr x ty).below hb2, (hb2.frozen (p := ⟨wr.heap.size, 11, none⟩) hlt1).trans (by simp), (hb1.trans (hb2.mono (Nat.le_of_lt hlt1))).setCell (Nat.le_refl _) _, ?_, fun a ha => ?_⟩⟩
  · exact bytesC_grown hsl hg3 (fun p hp ha => by have := hbl p ha; simp only [ne_eq, Option.some.injEq]; omega)
  · have := hbl a ha
    omega
theorem copied_in {t : TypeId} {wr W : World} {B : Nat} {v : Value} {c : List Nod} {x : Nod} {da : Option Addr} {dc : Nat} (o : Obj) (hown : OwnNods t wr B v c) (hx : x.Ok maxLen wr)
    (hsl : SliceC maxLen 1 ByteC W [.slice da x.data.length dc] x.data) (hbl : ∀ a, da = some a → wr.heap.size ≤ a.block) : NodIn (W.alloc o) v (x.at da dc) := by
  refine ⟨Nod.at_ok hx (hsl.below (fun _ _ h => h) ((Below.refl _ _).alloc (Nat.le_refl _) o)), fun a _ ha e => ?_⟩
  have h1 := hbl a ha
  have h2 := (World.ownsRow.lt hown.1 _ e).2
  omega
theorem src_nod_at {P : Program} (w : World) {n : Nat} (hn : n = w.heap.size) (tx e' e : TypeId) (hk : P.underlying tx = some (.slice e')) (x : Nod) : Src P 12 tx (.slice (some ⟨n, 0, none⟩) 1 1) 1 ([x].flatMap Nod.cells) (w.alloc (.cells #[.string x.path, .int .i64 x.kind, .int .i64 x.same, .string x.target, .int .i64 x.mt.mode, .int .i64 x.mt.uid, .int .i64 x.mt.gid, .string x.mt.user, .string x.mt.group, .int .i64 x.mt.second, .int .i64 x.mt.nano, .slice x.da x.data.length x.dcap] e)) := by
  subst hn
  exact src_nod w tx e' e hk x
end Go.Creel
namespace Go.Proofs.YtaffgndickdbiaaDoor
set_option linter.unusedVariables false
set_option linter.unusedSimpArgs false
open Go.Creel Go.RowKit
theorem info_node : (Tryd.prog.info? 60).map (fun i => (i.zero, i.size, i.bytes)) = some (some (.agg #[.string ⟨#[]⟩, .int .i64 0, .int .i64 0, .string ⟨#[]⟩, .int .i64 0, .int .i64 0, .int .i64 0, .string ⟨#[]⟩, .string ⟨#[]⟩, .int .i64 0, .int .i64 0, .slice none 0 0]), 12, 144) := by kernel_rfl
theorem info_byte : (Tryd.prog.info? 5).map (fun i => (i.zero, i.size, i.bytes)) = some (some (.int .u8 0), 1, 1) := by kernel_rfl
set_option maxRecDepth 100000 in
set_option maxHeartbeats 4000000 in
theorem CopyL_at (b off cap : Nat) (l : List Nod) (w : World) (hpos : 0 < l.length) (hfew : l.length ≤ 8000000000) (hle : l.length ≤ cap) (hm : cap ≤ maxLen) (hc : NodsAt w b off l) (hok : ∀ i, i < l.length → (nk l i).Ok maxLen w) (hdat : ∀ i, i < l.length → (nk l i).data.length ≤ 140737488355328) :
    Calls Tryd.prog 44 #[.slice (some ⟨b, off, none⟩) l.length cap] w (RetT 60 w l) := by
  obtain ⟨i0, hi, hz0, hz1, hz2⟩ := info_parts info_node
  have HI := Lib.hid (And.intro hi (And.intro hz0 (And.intro hz1 hz2)))
  clear hi hz0 hz1 hz2
  obtain ⟨i1, hi, hz0, hz1, hz2⟩ := info_parts info_byte
  have HJ := Lib.hid (And.intro hi (And.intro hz0 (And.intro hz1 hz2)))
  have HC := Lib.hid hc
  have HK := Lib.hid hok
  have HD := Lib.hid hdat
  unfold maxLen at hm
  clear hc hok hdat hi hz0 hz1 hz2
  go_enter Tryd.func44, Tryd.ntmps44
  go_wp2_with (at_make; refine wpList_make_own _ rfl _ _ 22 rfl w.heap.size 60 i0 _ 12 Tryd.underlying22 HI.out.1 HI.out.2.1 HI.out.2.2.1 .i64 .i64 _ l.length rfl rfl (by first | rfl | omega) (by rw [HI.out.2.2.2]; omega) (by unfold maxLen; omega) (Nat.le_refl _) ?_; intro w5 hown hgr)
  have HOW5 := Lib.hid (show OwnNods 60 w5 w.heap.size (.slice (some ⟨w.heap.size, 0, none⟩) 0 l.length) [] from ⟨hown, fun x hx => absurd hx (by simp)⟩)
  have HB5 := Lib.hid ((Below.refl w.heap.size w).grown hgr (Nat.le_refl _) (fun x hx => by cases hx))
  clear hown hgr
  go_loopw [3, 5, 11] (fun v _ i wr => ∃ (k : Nat) (c : List Nod), k ≤ l.length ∧ i = .int .i64 k ∧ c.length = k ∧ Hid (OwnNods 60 wr w.heap.size v c) ∧ Hid (c.map Nod.bare = (l.take k).map Nod.bare) ∧ Hid (Below w.heap.size w wr)) (fun _ _ i _ => l.length - (intOf i).toNat)
  case atStart => exact ⟨0, [], by omega, rfl, rfl, HOW5, Lib.hid rfl, HB5⟩
  case round =>
    obtain ⟨k, c, hk, rfl, hck, HOW, HBR, HB⟩ := hrel
    by_cases hlt : k < l.length
    · obtain ⟨h0, h1, h2, h3, h4, h5, h6, h7, h8, h9, h10, h11⟩ := (HC.out.below HB.out) k hlt
      have hxl := HD.out k hlt
      have HOB := Lib.hid HB.out.size
      have HKX := Lib.hid ((HK.out k hlt).below HB.out)
      have HBY := Lib.hid (fun (y : Nod) (hy : y.bare = (nk l k).bare) => bare_take HBR.out hlt hy)
      generalize nk l k = x at *
      have hbx := (Below.refl wr.heap.size wr).alloc (Nat.le_refl _) (boxOf x)
      have HBX := Lib.hid hbx
      have hxd : SliceC maxLen 1 ByteC (wr.alloc (boxOf x)) [.slice x.da x.data.length x.dcap] x.data := HKX.out.data.below (fun _ _ h => h) hbx
      clear hbx
      have happ : ∀ ty, AppTo Tryd.prog (wr.alloc (boxOf x)) 38 38 ty (.slice none 0 0) (.slice x.da x.data.length x.dcap) (wr.alloc (boxOf x)).heap.size 5 1 0 x.data.length [] (x.data.map byteV) := fun ty => app_bytes (l := []) (wr.alloc (boxOf x)) 38 38 5 5 i1 Tryd.underlying38 Tryd.underlying38 HJ.out.1 HJ.out.2.1 HJ.out.2.2.1 HJ.out.2.2.2 (OwnBs.nil _ _ _) hxd (by simp; omega) (Nat.le_refl _) ty
      have HAPP := Lib.hid happ
      clear happ
      have hob := HOB.out
      go_wp2_with (first
        | (at_builtin; refine wpList_app _ rfl (.const (.slice none 0 0)) (.tmp 16) 38 38 rfl _ _ rfl rfl HAPP.out ?_; intro v1 w2 ho hg _; obtain ⟨da, dc, rfl, HP2⟩ := copied_bytes (by unfold maxLen; omega) ho hg; obtain ⟨⟨c0, c1, c2, c3, c4, c5, c6, c7, c8, c9, c10, c11⟩, hfz, _⟩ := HP2.out; simp only [Nat.zero_add] at c1 c2 c3 c4 c5 c6 c7 c8 c9 c10 c11; clear ho hg)
        | (at_builtin; have HO3 := Lib.hid (HOW.out.below (HP2.out.2.2.1.alloc HP2.out.2.2.1.size (boxOf (x.at da dc)))); have HN3 := Lib.hid (copied_in (boxOf (x.at da dc)) HOW.out HKX.out HP2.out.2.2.2.1 HP2.out.2.2.2.2); refine wpList_app _ rfl (.tmp 19) (.tmp 21) 22 22 rfl _ _ rfl rfl (fun ty => app_src _ 22 22 ty w.heap.size 60 i0 _ 12 144 Tryd.underlying22 HI.out.1 HI.out.2.1 HI.out.2.2.1 HI.out.2.2.2 rfl (by decide) _ _ c.length 1 _ _ HO3.out.1 (src_nod_at (w2.setCell ⟨wr.heap.size, 11, none⟩ (.slice da x.data.length dc)) (show w2.heap.size = _ by simp) _ _ _ Tryd.underlying22 (x.at da dc)) (by unfold maxLen; omega) (by omega) (Nat.le_trans HOB.out (HP2.out.2.2.1.alloc HP2.out.2.2.1.size (boxOf (x.at da dc))).size)) ?_; intro v2 w4 ho2 hg2 hv2; have HZ := Lib.hid (And.intro ho2 (And.intro hg2 hv2)); clear ho2 hg2 hv2))
      have HO4 := Lib.hid (HO3.out.app (m := [x.at da dc]) (fun y hy => by rw [List.mem_singleton.1 hy]; exact HN3.out) HZ.out.1 HZ.out.2.1 HZ.out.2.2.2)
      have HB3 := Lib.hid (HB.out.trans ((HP2.out.2.2.1.alloc HP2.out.2.2.1.size (boxOf (x.at da dc))).mono HB.out.size))
      have HB4 := Lib.hid (below_app HB3.out HZ.out.2.1 HO3.out.1 HB3.out.size)
      go_wp2
      go_roundw
      case rel => exact ⟨k + 1, c ++ [x.at da dc], by omega, by go_num, by simp [hck], HO4, Lib.hid (HBY.out _ rfl), HB4⟩
      case measure => simp [intOf]; omega
    · obtain rfl : k = l.length := by omega
      go_wp2
      go_ret
      rw [List.take_length] at HBR
      exact ⟨_, c, rfl, HOW.out, HBR.out, HB.out⟩
set_option maxRecDepth 100000 in
theorem CopyL_nil (a : Option Addr) (cap : Nat) (w : World) : Calls Tryd.prog 44 #[.slice a 0 cap] w (RetT 60 w []) := by
  obtain ⟨i0, hi, hz0, hz1, hz2⟩ := info_parts info_node
  have HI := Lib.hid (And.intro hi (And.intro hz0 (And.intro hz1 hz2)))
  clear hi hz0 hz1 hz2
  go_enter Tryd.func44, Tryd.ntmps44
  go_wp2_with (at_make; refine wpList_make_own _ rfl _ _ 22 rfl w.heap.size 60 i0 _ 12 Tryd.underlying22 HI.out.1 HI.out.2.1 HI.out.2.2.1 .i64 .i64 _ 0 rfl rfl rfl (by omega) (by unfold maxLen; omega) (Nat.le_refl _) ?_; intro w5 hown hgr)
  have HOW5 := Lib.hid (show OwnNods 60 w5 w.heap.size (.slice (some ⟨w.heap.size, 0, none⟩) 0 0) [] from ⟨hown, fun x hx => absurd hx (by simp)⟩)
  have HB5 := Lib.hid ((Below.refl w.heap.size w).grown hgr (Nat.le_refl _) (fun x hx => by cases hx))
  clear hown hgr
  go_loop [3, 5, 11] (fun v _ i => i = .int .i64 0 ∧ v = .slice (some ⟨w.heap.size, 0, none⟩) 0 0) (fun _ _ _ => 0)
  case atStart => exact ⟨rfl, rfl⟩
  case round =>
    obtain ⟨rfl, rfl⟩ := hrel
    go_wp2
    go_ret
    exact ⟨_, [], rfl, HOW5.out, rfl, HB5.out⟩
theorem CopyL_any (v : Value) (l : List Nod) (w : World) (h : SliceC maxLen 12 (NodC maxLen) w [v] l) (hfew : l.length ≤ 8000000000) (hdat : ∀ i, i < l.length → (nk l i).data.length ≤ 140737488355328) :
    Calls Tryd.prog 44 #[v] w (RetT 60 w l) := by
  rcases nods_cases h with ⟨a, cap, rfl, rfl, _⟩ | ⟨b, off, cap, rfl, h1, h2, h3, h6, h4, h5⟩
  · exact CopyL_nil a cap w
  · exact CopyL_at b off cap l w h1 hfew h2 h3 h4 h5 hdat
end Go.Proofs.YtaffgndickdbiaaDoor
