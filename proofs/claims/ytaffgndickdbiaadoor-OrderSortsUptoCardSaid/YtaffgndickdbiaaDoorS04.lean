/-
  Texts: CopyL, CopyR, TreeAll, FindN, EntSpec, Ents, TreeP, PutSpec.
-/
import Derived.Test.YtaffgndickdbiaaDoorS03
import Derived.Sort.Walk0
set_option linter.unusedVariables false
set_option linter.unusedSimpArgs false
set_option linter.unusedSectionVars false
namespace Go.Creel
open Go.RowKit
theorem ownBs_parts {t : TypeId} {w : World} {B : Nat} {v : Value} {l : List UInt8} (h : OwnBs t w B v l) (hl : l.length ≤ maxLen) : ∃ da dcap, v = .slice da l.length dcap ∧ SliceC maxLen 1 ByteC w [.slice da l.length dcap] l ∧ ∀ a, da = some a → B ≤ a.block := by
  rcases h.form with ⟨rfl, rfl⟩ | ⟨g, cap, rfl, hg⟩
  · exact ⟨none, 0, rfl, h.slice hl, fun a ha => by cases ha⟩
  · refine ⟨_, _, rfl, h.slice hl, fun a ha => ?_⟩
    cases ha
    exact (World.ownsRow.lt hg g rfl).1
theorem grownBy_setCell (w : World) (g o : Nat) (u : Value) : w.grownBy (w.setCell ⟨g, o, none⟩ u) (some g) :=
  ⟨rfl, rfl, rfl, by simp, fun k _ hk => heap_setCell_other w ⟨g, o, none⟩ k u (fun e => hk (by simp [e]))⟩
theorem bare_take {l c : List Nod} {k : Nat} {y : Nod} (h : c.map Nod.bare = (l.take k).map Nod.bare) (hk : k < l.length) (hy : y.bare = (nk l k).bare) : (c ++ [y]).map Nod.bare = (l.take (k + 1)).map Nod.bare := by
  rw [List.map_append, h, List.take_succ_eq_append_getElem hk, List.map_append]
  rw [nk_eq hk] at hy
  simp [hy]
def Nod.at (x : Nod) (a : Option Addr) (c : Nat) : Nod := { x with da := a, dcap := c }
theorem Nod.at_ok {w : World} {x : Nod} {a : Option Addr} {c : Nat} (h : x.Ok maxLen w) {w' : World} (hd : SliceC maxLen 1 ByteC w' [.slice a x.data.length c] x.data) : (x.at a c).Ok maxLen w' := ⟨h.path, h.kind, h.same, h.target, h.mt, hd⟩
theorem copied_bytes {t : TypeId} {wr w2 : World} {v1 : Value} {x : Nod} {ty : TypeId} (hd : x.data.length ≤ maxLen)
    (ho : w2.ownsRow (wr.alloc (.cells #[.string x.path, .int .i64 x.kind, .int .i64 x.same, .string x.target, .int .i64 x.mt.mode, .int .i64 x.mt.uid, .int .i64 x.mt.gid, .string x.mt.user, .string x.mt.group, .int .i64 x.mt.second, .int .i64 x.mt.nano, .slice x.da x.data.length x.dcap] ty)).heap.size t 1 v1 (0 + x.data.length) ([] ++ x.data.map byteV))
    (hg : (wr.alloc (.cells #[.string x.path, .int .i64 x.kind, .int .i64 x.same, .string x.target, .int .i64 x.mt.mode, .int .i64 x.mt.uid, .int .i64 x.mt.gid, .string x.mt.user, .string x.mt.group, .int .i64 x.mt.second, .int .i64 x.mt.nano, .slice x.da x.data.length x.dcap] ty)).grownBy w2 (Value.ownBlock (.slice none 0 0))) :
    ∃ da dc, v1 = .slice da x.data.length dc ∧ Hid (NodAt w2 wr.heap.size 0 x ∧ w2.frozen? ⟨wr.heap.size, 11, none⟩ = false ∧ Below wr.heap.size wr (w2.setCell ⟨wr.heap.size, 11, none⟩ (.slice da x.data.length dc)) ∧
      SliceC maxLen 1 ByteC (w2.setCell ⟨wr.heap.size, 11, none⟩ (.slice da x.data.length dc)) [.slice da x.data.length dc] x.data ∧ ∀ a, da = some a → wr.heap.size ≤ a.block) := by
  obtain ⟨da, dc, hv, hsl, hbl⟩ := ownBs_parts (show OwnBs _ _ _ _ x.data from OwnBs.app (l := []) ho) hd
  have hlt1 : wr.heap.size < (wr.alloc (.cells #[.string x.path, .int .i64 x.kind, .int .i64 x.same, .string x.target, .int .i64 x.mt.mode, .int .i64 x.mt.uid, .int .i64 x.mt.gid, .string x.mt.user, .string x.mt.group, .int .i64 x.mt.second, .int .i64 x.mt.nano, .slice x.da x.data.length x.dcap] ty)).heap.size := by simp
  have hb1 := (Below.refl wr.heap.size wr).alloc (Nat.le_refl _) (.cells #[.string x.path, .int .i64 x.kind, .int .i64 x.same, .string x.target, .int .i64 x.mt.mode, .int .i64 x.mt.uid, .int .i64 x.mt.gid, .string x.mt.user, .string x.mt.group, .int .i64 x.mt.second, .int .i64 x.mt.nano, .slice x.da x.data.length x.dcap] ty)
  have hb2 := (Below.refl _ _).grown hg (Nat.le_refl _) (fun k hk => by simp [Value.ownBlock] at hk)
  have hg3 := grownBy_setCell w2 wr.heap.size 11 (.slice da x.data.length dc)
  refine ⟨da, dc, hv, Lib.hid ⟨(nodAt_box wr x ty).below hb2, (hb2.frozen (p := ⟨wr.heap.size, 11, none⟩) hlt1).trans (by simp), (hb1.trans (hb2.mono (Nat.le_of_lt hlt1))).setCell (Nat.le_refl _) _, ?_, fun a ha => ?_⟩⟩
  · exact bytesC_grown hsl hg3 (fun p hp ha => by have := hbl p ha; simp only [ne_eq, Option.some.injEq]; omega)
  · have := hbl a ha
    omega
theorem copied_in {t : TypeId} {wr W : World} {B : Nat} {v : Value} {c : List Nod} {x : Nod} {da : Option Addr} {dc : Nat} (o : Obj) (hown : OwnNods t wr B v c) (hx : x.Ok maxLen wr)
    (hsl : SliceC maxLen 1 ByteC W [.slice da x.data.length dc] x.data) (hbl : ∀ a, da = some a → wr.heap.size ≤ a.block) : NodIn (W.alloc o) v (x.at da dc) := by
  refine ⟨Nod.at_ok hx (hsl.below (fun _ _ h => h) ((Below.refl _ _).alloc (Nat.le_refl _) o)), fun a _ ha e => ?_⟩
  have h1 := hbl a ha
  have h2 := (World.ownsRow.lt hown.1 _ e).2
  omega
theorem src_nod_at {P : Program} (w : World) {n : Nat} (hn : n = w.heap.size) (tx e' e : TypeId) (hk : P.underlying tx = some (.slice e')) (x : Nod) : Src P 12 tx (.slice (some ⟨n, 0, none⟩) 1 1) 1 ([x].flatMap Nod.cells) (w.alloc (.cells #[.string x.path, .int .i64 x.kind, .int .i64 x.same, .string x.target, .int .i64 x.mt.mode, .int .i64 x.mt.uid, .int .i64 x.mt.gid, .string x.mt.user, .string x.mt.group, .int .i64 x.mt.second, .int .i64 x.mt.nano, .slice x.da x.data.length x.dcap] e)) := by
  subst hn
  exact src_nod w tx e' e hk x
end Go.Creel
namespace Go.Proofs.YtaffgndickdbiaaDoor
open Go.Creel Go.RowKit
theorem info_node : (Tryd.prog.info? 60).map (fun i => (i.zero, i.size, i.bytes)) = some (some (.agg #[.string ⟨#[]⟩, .int .i64 0, .int .i64 0, .string ⟨#[]⟩, .int .i64 0, .int .i64 0, .int .i64 0, .string ⟨#[]⟩, .string ⟨#[]⟩, .int .i64 0, .int .i64 0, .slice none 0 0]), 12, 144) := by kernel_rfl
theorem info_byteC : (Tryd.prog.info? 5).map (fun i => (i.zero, i.size, i.bytes)) = some (some (.int .u8 0), 1, 1) := by kernel_rfl
set_option maxRecDepth 100000 in
set_option maxHeartbeats 4000000 in
theorem CopyL_at (b off cap : Nat) (l : List Nod) (w : World) (hpos : 0 < l.length) (hfew : l.length ≤ 8000000000) (hle : l.length ≤ cap) (hm : cap ≤ maxLen) (hc : NodsAt w b off l) (hok : ∀ i, i < l.length → (nk l i).Ok maxLen w) (hdat : ∀ i, i < l.length → (nk l i).data.length ≤ 140737488355328) :
    Calls Tryd.prog 44 #[.slice (some ⟨b, off, none⟩) l.length cap] w (RetT 60 w l) := by
  obtain ⟨i0, hi, hz0, hz1, hz2⟩ := info_parts info_node
  have HI := Lib.hid (And.intro hi (And.intro hz0 (And.intro hz1 hz2)))
  clear hi hz0 hz1 hz2
  obtain ⟨i1, hi, hz0, hz1, hz2⟩ := info_parts info_byteC
  have HJ := Lib.hid (And.intro hi (And.intro hz0 (And.intro hz1 hz2)))
  have HC := Lib.hid hc
  have HK := Lib.hid hok
  have HD := Lib.hid hdat
  unfold maxLen at hm
  clear hc hok hdat hi hz0 hz1 hz2
  go_enter Tryd.func44, Tryd.ntmps44
  go_wp2_with (at_make; refine wpList_make_own _ rfl _ _ 22 rfl w.heap.size 60 i0 _ 12 Tryd.underlying22 HI.out.1 HI.out.2.1 HI.out.2.2.1 .i64 .i64 _ l.length rfl rfl (by first | rfl | omega) (by rw [HI.out.2.2.2]; omega) (by unfold maxLen; omega) (Nat.le_refl _) ?_; intro w5 hown hgr)
  have HOW5 := Lib.hid (show OwnNods 60 w5 w.heap.size (.slice (some ⟨w.heap.size, 0, none⟩) 0 l.length) [] from ⟨hown, fun x hx => absurd hx (by simp)⟩)
  have HB5 := Lib.hid ((Below.refl w.heap.size w).grown hgr (Nat.le_refl _) (fun x hx => by cases hx))
  clear hown hgr
  go_loopw [3, 5, 11] (fun v _ i wr => ∃ (k : Nat) (c : List Nod), k ≤ l.length ∧ i = .int .i64 k ∧ c.length = k ∧ Hid (OwnNods 60 wr w.heap.size v c) ∧ Hid (c.map Nod.bare = (l.take k).map Nod.bare) ∧ Hid (Below w.heap.size w wr)) (fun _ _ i _ => l.length - (intOf i).toNat)
  case atStart => exact ⟨0, [], by omega, rfl, rfl, HOW5, Lib.hid rfl, HB5⟩
  case round =>
    obtain ⟨k, c, hk, rfl, hck, HOW, HBR, HB⟩ := hrel
    by_cases hlt : k < l.length
    · obtain ⟨h0, h1, h2, h3, h4, h5, h6, h7, h8, h9, h10, h11⟩ := (HC.out.below HB.out) k hlt
      have hxl := HD.out k hlt
      have HOB := Lib.hid HB.out.size
      have HKX := Lib.hid ((HK.out k hlt).below HB.out)
      have HBY := Lib.hid (fun (y : Nod) (hy : y.bare = (nk l k).bare) => bare_take HBR.out hlt hy)
      generalize nk l k = x at *
      have hbx := (Below.refl wr.heap.size wr).alloc (Nat.le_refl _) (boxOf x)
      have HBX := Lib.hid hbx
      have hxd : SliceC maxLen 1 ByteC (wr.alloc (boxOf x)) [.slice x.da x.data.length x.dcap] x.data := HKX.out.data.below (fun _ _ h => h) hbx
      clear hbx
      have happ : ∀ ty, AppTo Tryd.prog (wr.alloc (boxOf x)) 38 38 ty (.slice none 0 0) (.slice x.da x.data.length x.dcap) (wr.alloc (boxOf x)).heap.size 5 1 0 x.data.length [] (x.data.map byteV) := fun ty => app_bytes (l := []) (wr.alloc (boxOf x)) 38 38 5 5 i1 Tryd.underlying38 Tryd.underlying38 HJ.out.1 HJ.out.2.1 HJ.out.2.2.1 HJ.out.2.2.2 (OwnBs.nil _ _ _) hxd (by simp; omega) (Nat.le_refl _) ty
      have HAPP := Lib.hid happ
      clear happ
      have hob := HOB.out
      go_wp2_with (first
        | (at_builtin; refine wpList_app _ rfl (.const (.slice none 0 0)) (.tmp 16) 38 38 rfl _ _ rfl rfl HAPP.out ?_; intro v1 w2 ho hg _; obtain ⟨da, dc, rfl, HP2⟩ := copied_bytes (by unfold maxLen; omega) ho hg; obtain ⟨⟨c0, c1, c2, c3, c4, c5, c6, c7, c8, c9, c10, c11⟩, hfz, _⟩ := HP2.out; simp only [Nat.zero_add] at c1 c2 c3 c4 c5 c6 c7 c8 c9 c10 c11; clear ho hg)
        | (at_builtin; have HO3 := Lib.hid (HOW.out.below (HP2.out.2.2.1.alloc HP2.out.2.2.1.size (boxOf (x.at da dc)))); have HN3 := Lib.hid (copied_in (boxOf (x.at da dc)) HOW.out HKX.out HP2.out.2.2.2.1 HP2.out.2.2.2.2); refine wpList_app _ rfl (.tmp 19) (.tmp 21) 22 22 rfl _ _ rfl rfl (fun ty => app_src _ 22 22 ty w.heap.size 60 i0 _ 12 144 Tryd.underlying22 HI.out.1 HI.out.2.1 HI.out.2.2.1 HI.out.2.2.2 rfl (by decide) _ _ c.length 1 _ _ HO3.out.1 (src_nod_at (w2.setCell ⟨wr.heap.size, 11, none⟩ (.slice da x.data.length dc)) (show w2.heap.size = _ by simp) _ _ _ Tryd.underlying22 (x.at da dc)) (by unfold maxLen; omega) (by omega) (Nat.le_trans HOB.out (HP2.out.2.2.1.alloc HP2.out.2.2.1.size (boxOf (x.at da dc))).size)) ?_; intro v2 w4 ho2 hg2 hv2; have HZ := Lib.hid (And.intro ho2 (And.intro hg2 hv2)); clear ho2 hg2 hv2))
      have HO4 := Lib.hid (HO3.out.app (m := [x.at da dc]) (fun y hy => by rw [List.mem_singleton.1 hy]; exact HN3.out) HZ.out.1 HZ.out.2.1 HZ.out.2.2.2)
      have HB3 := Lib.hid (HB.out.trans ((HP2.out.2.2.1.alloc HP2.out.2.2.1.size (boxOf (x.at da dc))).mono HB.out.size))
      have HB4 := Lib.hid (below_app HB3.out HZ.out.2.1 HO3.out.1 HB3.out.size)
      go_wp2
      go_roundw
      case rel => exact ⟨k + 1, c ++ [x.at da dc], by omega, by go_num, by simp [hck], HO4, Lib.hid (HBY.out _ rfl), HB4⟩
      case measure => simp [intOf]; omega
    · obtain rfl : k = l.length := by omega
      go_wp2
      go_ret
      rw [List.take_length] at HBR
      exact ⟨_, c, rfl, HOW.out, HBR.out, HB.out⟩
set_option maxRecDepth 100000 in
theorem CopyL_nil (a : Option Addr) (cap : Nat) (w : World) : Calls Tryd.prog 44 #[.slice a 0 cap] w (RetT 60 w []) := by
  obtain ⟨i0, hi, hz0, hz1, hz2⟩ := info_parts info_node
  have HI := Lib.hid (And.intro hi (And.intro hz0 (And.intro hz1 hz2)))
  clear hi hz0 hz1 hz2
  go_enter Tryd.func44, Tryd.ntmps44
  go_wp2_with (at_make; refine wpList_make_own _ rfl _ _ 22 rfl w.heap.size 60 i0 _ 12 Tryd.underlying22 HI.out.1 HI.out.2.1 HI.out.2.2.1 .i64 .i64 _ 0 rfl rfl rfl (by omega) (by unfold maxLen; omega) (Nat.le_refl _) ?_; intro w5 hown hgr)
  have HOW5 := Lib.hid (show OwnNods 60 w5 w.heap.size (.slice (some ⟨w.heap.size, 0, none⟩) 0 0) [] from ⟨hown, fun x hx => absurd hx (by simp)⟩)
  have HB5 := Lib.hid ((Below.refl w.heap.size w).grown hgr (Nat.le_refl _) (fun x hx => by cases hx))
  clear hown hgr
  go_loop [3, 5, 11] (fun v _ i => i = .int .i64 0 ∧ v = .slice (some ⟨w.heap.size, 0, none⟩) 0 0) (fun _ _ _ => 0)
  case atStart => exact ⟨rfl, rfl⟩
  case round =>
    obtain ⟨rfl, rfl⟩ := hrel
    go_wp2
    go_ret
    exact ⟨_, [], rfl, HOW5.out, rfl, HB5.out⟩
theorem CopyL_any (v : Value) (l : List Nod) (w : World) (h : SliceC maxLen 12 (NodC maxLen) w [v] l) (hfew : l.length ≤ 8000000000) (hdat : ∀ i, i < l.length → (nk l i).data.length ≤ 140737488355328) :
    Calls Tryd.prog 44 #[v] w (RetT 60 w l) := by
  rcases nods_cases h with ⟨a, cap, rfl, rfl, _⟩ | ⟨b, off, cap, rfl, h1, h2, h3, h6, h4, h5⟩
  · exact CopyL_nil a cap w
  · exact CopyL_at b off cap l w h1 hfew h2 h3 h4 h5 hdat
end Go.Proofs.YtaffgndickdbiaaDoor
namespace Go.Creel
open Go.RowKit
theorem put_new {t : TypeId} {W w1 : World} {B k : Nat} {v v1 : Value} {c : List Nod} {x : Nod} (hown : OwnNods t W B v c) (hx : NodIn W v x) (hk : c.length = k) (ho : w1.ownsRow B t 12 v1 (c.length + 1) (c.flatMap Nod.cells ++ [x].flatMap Nod.cells)) (hg : W.grownBy w1 v.ownBlock)
    (hv : v1.ownBlock = v.ownBlock ∨ ∃ b, v1.ownBlock = some b ∧ W.heap.size ≤ b) : ∃ g cap, v1 = .slice (some ⟨g, 0, none⟩) (k + 1) cap ∧ Hid (OwnNods t w1 B (.slice (some ⟨g, 0, none⟩) (k + 1) cap) (c ++ [x]) ∧ B ≤ g) := by
  have h := hown.app (m := [x]) (fun y hy => by rw [List.mem_singleton.1 hy]; exact hx) ho hg hv
  rcases h.form with ⟨_, h0⟩ | ⟨g, cap, rfl, h1, _⟩
  · simp at h0
  · have e : (c ++ [x]).length = k + 1 := by simp [hk]
    rw [e] at h ⊢
    exact ⟨g, cap, rfl, Lib.hid ⟨h, h1⟩⟩
theorem nodIn_arg {t : TypeId} {w W W' : World} {v : Value} {c : List Nod} {x : Nod} (hx : x.Ok maxLen w) (hb : Below w.heap.size w W) (hown : OwnNods t W' w.heap.size v c) : NodIn W v x :=
  ⟨hx.below hb, fun a hp ha e => by
    have h1 := hx.lt a hp ha
    have h2 := (World.ownsRow.lt hown.1 _ e).1
    omega⟩
theorem nk_last {c : List Nod} {x : Nod} {k : Nat} (hk : c.length = k) : nk (c ++ [x]) k = x := by
  subst hk
  simp [nk, List.getD_eq_getElem?_getD]
theorem set_last {c : List Nod} {x y : Nod} {k : Nat} (hk : c.length = k) : (c ++ [x]).set k y = c ++ [y] := by
  subst hk
  simp
theorem copied_into {t tb : TypeId} {w1 w2 : World} {v2 : Value} {B g cp k : Nat} {c : List Nod} {x : Nod} (hown : OwnNods t w1 B (.slice (some ⟨g, 0, none⟩) (k + 1) cp) (c ++ [x])) (hck : c.length = k) (hd : x.data.length ≤ maxLen)
    (ho : w2.ownsRow w1.heap.size tb 1 v2 (0 + x.data.length) ([] ++ x.data.map byteV)) (hg : (w1.alloc (.cells #[] tb)).grownBy w2 (Value.ownBlock (.slice (some ⟨w1.heap.size, 0, none⟩) 0 0))) :
    ∃ da dc, v2 = .slice da x.data.length dc ∧ Hid (Below w1.heap.size w1 w2 ∧ w2.cell? ⟨g, k * 12 + 11, none⟩ = some (.slice x.da x.data.length x.dcap) ∧ w2.frozen? ⟨g, k * 12 + 11, none⟩ = false ∧
      OwnNods t (w2.setCell ⟨g, k * 12 + 11, none⟩ (.slice da x.data.length dc)) B (.slice (some ⟨g, 0, none⟩) (k + 1) cp) (c ++ [x.at da dc]) ∧ B ≤ g ∧ ∀ a, da = some a → w1.heap.size ≤ a.block) := by
  obtain ⟨da, dc, hv, hsl, hbl⟩ := ownBs_parts (show OwnBs _ _ _ _ x.data from OwnBs.app (l := []) ho) hd
  have hb1 := (Below.refl w1.heap.size w1).alloc (Nat.le_refl _) (.cells #[] tb)
  have hb2 := hb1.grown hg hb1.size (fun k hk => by simp [Value.ownBlock] at hk; omega)
  have e : (c ++ [x]).length = k + 1 := by simp [hck]
  have hO2 := hown.below hb2
  rw [← e] at hO2
  have hk : k < (c ++ [x]).length := by omega
  have hx2 := (hO2.nodIn hk).1
  have hn := hO2.nodAt hk
  rw [nk_last hck] at hx2 hn
  obtain ⟨_, _, _, _, _, _, _, _, _, _, _, h11⟩ := hn
  have hlt := (World.ownsRow.lt hown.1 g rfl)
  have hp := hO2.put (k := k) (j := 11) hk (by omega) (x.at da dc) (.slice da x.data.length dc) (by rw [nk_last hck]; rfl) ⟨Nod.at_ok hx2 hsl, fun a _ ha e => by
    have h1 := hbl a ha
    simp only [Value.ownBlock, Option.some.injEq] at e
    omega⟩
  rw [e, set_last hck] at hp
  exact ⟨da, dc, hv, Lib.hid ⟨hb2, h11, hO2.1.frozenAt _, hp.1, hlt.1, hbl⟩⟩
def RetTG (t : TypeId) (w : World) (l : List Nod) (e : Ending) (w' : World) : Prop := ∃ v l', e = .returned v ∧ OwnNods t w' w.heap.size v l' ∧ l'.map Nod.bare = l.map Nod.bare ∧ Below w.heap.size w w' ∧ ∀ x ∈ l', ∀ a, x.da = some a → w.heap.size ≤ a.block
theorem RetTG.ret {t : TypeId} {w w' : World} {l : List Nod} {e : Ending} (h : RetTG t w l e w') : RetT t w l e w' := by
  obtain ⟨v, l', h1, h2, h3, h4, _⟩ := h
  exact ⟨v, l', h1, h2, h3, h4⟩
end Go.Creel
namespace Go.Proofs.YtaffgndickdbiaaDoor
open Go.Creel Go.RowKit
set_option maxRecDepth 100000 in
set_option maxHeartbeats 4000000 in
theorem CopyRG_at (b off cap : Nat) (l : List Nod) (w : World) (hpos : 0 < l.length) (hfew : l.length ≤ 8000000000) (hle : l.length ≤ cap) (hm : cap ≤ maxLen) (hc : NodsAt w b off l) (hok : ∀ i, i < l.length → (nk l i).Ok maxLen w) (hdat : ∀ i, i < l.length → (nk l i).data.length ≤ 140737488355328) :
    Calls Tryd.prog 35 #[.slice (some ⟨b, off, none⟩) l.length cap] w (RetTG 60 w l) := by
  obtain ⟨i0, hi, hz0, hz1, hz2⟩ := info_parts info_node
  have HI := Lib.hid (And.intro hi (And.intro hz0 (And.intro hz1 hz2)))
  clear hi hz0 hz1 hz2
  obtain ⟨i1, hi, hz0, hz1, hz2⟩ := info_parts info_byteC
  have HJ := Lib.hid (And.intro hi (And.intro hz0 (And.intro hz1 hz2)))
  have HC := Lib.hid hc
  have HK := Lib.hid hok
  have HD := Lib.hid hdat
  unfold maxLen at hm
  clear hc hok hdat hi hz0 hz1 hz2
  go_enter Tryd.func35, Tryd.ntmps35
  go_wp2
  go_loopw [3, 4] (fun v i wr => ∃ (k : Nat) (c : List Nod), k ≤ l.length ∧ i = .int .i64 k ∧ c.length = k ∧ Hid (OwnNods 60 wr w.heap.size v c) ∧ Hid (c.map Nod.bare = (l.take k).map Nod.bare) ∧ Hid (Below w.heap.size w wr) ∧ Hid (∀ x ∈ c, ∀ a, x.da = some a → w.heap.size ≤ a.block)) (fun _ i _ => l.length - (intOf i).toNat)
  case atStart => exact ⟨0, [], by omega, rfl, rfl, Lib.hid (OwnNods.nil _ _ _), Lib.hid rfl, Lib.hid (Below.refl _ _), Lib.hid (fun x hx => absurd hx (by simp))⟩
  case round =>
    obtain ⟨k, c, hk, rfl, hck, HOW, HBR, HB, HFR⟩ := hrel
    by_cases hlt : k < l.length
    · obtain ⟨h0, h1, h2, h3, h4, h5, h6, h7, h8, h9, h10, h11⟩ := (HC.out.below HB.out) k hlt
      have hxl := HD.out k hlt
      have HKX := Lib.hid (HK.out k hlt)
      have HCK := Lib.hid (HC.out k hlt)
      have HBY := Lib.hid (fun (y : Nod) (hy : y.bare = (nk l k).bare) => bare_take HBR.out hlt hy)
      generalize nk l k = x at *
      have HA := Lib.hid (HB.out.alloc HB.out.size (boxOf x))
      have HOA := Lib.hid (HOW.out.below ((Below.refl wr.heap.size wr).alloc (Nat.le_refl _) (boxOf x)))
      have HNX := Lib.hid (nodIn_arg HKX.out HA.out HOW.out)
      go_wp2_with (first
        | (at_builtin; refine wpList_app _ rfl (.tmp 11) (.tmp 16) 22 22 rfl _ _ rfl rfl (fun ty => app_src _ 22 22 ty w.heap.size 60 i0 _ 12 144 Tryd.underlying22 HI.out.1 HI.out.2.1 HI.out.2.2.1 HI.out.2.2.2 rfl (by decide) _ _ c.length 1 _ _ HOA.out.1 (src_nod wr _ _ _ Tryd.underlying22 x) (by unfold maxLen; omega) (by omega) HA.out.size) ?_; intro v1 w1 ho hg hv; have HB1 := Lib.hid (below_app HA.out hg HOA.out.1 HA.out.size); obtain ⟨g, cp, rfl, HP1⟩ := put_new HOA.out HNX.out hck ho hg hv.2; clear ho hg hv; obtain ⟨_, _, _, _, _, _, _, _, _, _, _, d11⟩ := (HCK.out.below HB1.out).below ((Below.refl w1.heap.size w1).alloc (Nat.le_refl _) (.cells #[] 5)))
        | (at_builtin; refine wpList_app _ rfl (.tmp 20) (.tmp 25) 38 38 rfl _ _ rfl rfl (fun ty => app_bytes (l := []) (w1.alloc (.cells #[] 5)) 38 38 5 5 i1 Tryd.underlying38 Tryd.underlying38 HJ.out.1 HJ.out.2.1 HJ.out.2.2.1 HJ.out.2.2.2 (World.ownsRow_made w1 #[] 0 (Nat.le_refl _) (by unfold maxLen; omega) rfl) ((HKX.out.below HB1.out).data.below (fun _ _ h => h) ((Below.refl w1.heap.size w1).alloc (Nat.le_refl _) (.cells #[] 5))) (by simp; omega) ((Below.refl w1.heap.size w1).alloc (Nat.le_refl _) (.cells #[] 5)).size ty) ?_; intro v2 w2 ho hg _; obtain ⟨da, dc, rfl, HP2⟩ := copied_into HP1.out.1 hck (by unfold maxLen; omega) ho hg; have hcc := HP2.out.2.1; have hff := HP2.out.2.2.1; clear ho hg))
      go_roundw
      case rel => exact ⟨k + 1, c ++ [x.at da dc], by omega, by go_num, by simp [hck], Lib.hid HP2.out.2.2.2.1, Lib.hid (HBY.out _ rfl), Lib.hid ((HB1.out.trans (HP2.out.1.mono HB1.out.size)).setCell HP2.out.2.2.2.2.1 _), Lib.hid (fun y hy a ha => by
        rcases List.mem_append.1 hy with h | h
        · exact HFR.out y h a ha
        · rw [List.mem_singleton.1 h] at ha
          exact Nat.le_trans HB1.out.size (HP2.out.2.2.2.2.2 a ha))⟩
      case measure => simp [intOf]; omega
    · obtain rfl : k = l.length := by omega
      rw [List.take_length] at HBR
      go_wp2
      go_ret
      exact ⟨_, c, rfl, HOW.out, HBR.out, HB.out, HFR.out⟩
theorem CopyR_at (b off cap : Nat) (l : List Nod) (w : World) (hpos : 0 < l.length) (hfew : l.length ≤ 8000000000) (hle : l.length ≤ cap) (hm : cap ≤ maxLen) (hc : NodsAt w b off l) (hok : ∀ i, i < l.length → (nk l i).Ok maxLen w) (hdat : ∀ i, i < l.length → (nk l i).data.length ≤ 140737488355328) :
    Calls Tryd.prog 35 #[.slice (some ⟨b, off, none⟩) l.length cap] w (RetT 60 w l) := (CopyRG_at b off cap l w hpos hfew hle hm hc hok hdat).mono fun _ _ h => h.ret
set_option maxRecDepth 100000 in
theorem CopyR_nil (a : Option Addr) (cap : Nat) (w : World) : Calls Tryd.prog 35 #[.slice a 0 cap] w (RetT 60 w []) := by
  go_enter Tryd.func35, Tryd.ntmps35
  go_wp2
  go_loop [3, 4] (fun v i => i = .int .i64 0 ∧ v = .slice none 0 0) (fun _ _ => 0)
  case atStart => exact ⟨rfl, rfl⟩
  case round =>
    obtain ⟨rfl, rfl⟩ := hrel
    go_wp2
    go_ret
    exact ⟨_, [], rfl, OwnNods.nil _ _ _, rfl, Below.refl _ _⟩
theorem CopyR_any (v : Value) (l : List Nod) (w : World) (h : SliceC maxLen 12 (NodC maxLen) w [v] l) (hfew : l.length ≤ 8000000000) (hdat : ∀ i, i < l.length → (nk l i).data.length ≤ 140737488355328) :
    Calls Tryd.prog 35 #[v] w (RetT 60 w l) := by
  rcases nods_cases h with ⟨a, cap, rfl, rfl, _⟩ | ⟨b, off, cap, rfl, h1, h2, h3, h6, h4, h5⟩
  · exact CopyR_nil a cap w
  · exact CopyR_at b off cap l w h1 hfew h2 h3 h4 h5 hdat
end Go.Proofs.YtaffgndickdbiaaDoor
namespace Go.Creel
open Go.RowKit
theorem treeFault_all {l : List Nod} (h : treeFault l = 0) : l.length ≤ 40 ∧ ∀ k, k < l.length → nodFault (nk l k) = 0 := by
  have hl : l.length ≤ 40 := by
    rcases Nat.lt_or_ge 40 l.length with e | e
    · rw [treeFault_many e] at h; cases h
    · exact e
  refine ⟨hl, ?_⟩
  have key : ∀ k, k ≤ l.length → ∀ j, j < k → stepF l j = 0 := by
    intro k
    induction k with
    | zero => intro _ j hj; omega
    | succ k ih =>
      intro hk j hj
      by_cases e : j = k
      · subst e
        refine Classical.byContradiction fun hne => ?_
        exact hne ((treeFault_at hl (by omega) (ih (by omega)) rfl hne).symm.trans h)
      · exact ih (by omega) j (by omega)
  intro k hk
  exact (stepF_zero (key _ (Nat.le_refl _) k hk)).1
open Classical in
theorem take_nk {l : List Nod} {k : Nat} (h : k < l.length) : l.take (k + 1) = l.take k ++ [nk l k] := by rw [List.take_succ_eq_append_getElem h, nk_eq h]
open Go.RowKit
theorem treeFind_lt : ∀ {l : List Nod} {s : ByteArray}, treeFind l s < l.length → (nk l (treeFind l s)).path = s
  | [], _, h => absurd h (by simp)
  | x :: t, s, h => by
    unfold treeFind at h ⊢
    by_cases e : x.path = s
    · rw [if_pos e]; exact e
    · rw [if_neg e] at h ⊢
      have h' : treeFind t s < t.length := by simp at h; omega
      exact treeFind_lt h'
abbrev Ent.val (e : Ent) : Value := .agg #[.string e.path, .int .i64 e.kind, .string e.target, .int .i64 e.mt.mode, .int .i64 e.mt.uid, .int .i64 e.mt.gid, .string e.mt.user, .string e.mt.group, .int .i64 e.mt.second, .int .i64 e.mt.nano, .slice e.da e.data.length e.dcap]
open Go.RowKit
def entZ : Ent := ⟨.empty, 0, .empty, ⟨0, 0, 0, .empty, .empty, 0, 0⟩, none, 0, []⟩
def ek (l : List Ent) (k : Nat) : Ent := l.getD k entZ
theorem ek_take {l : List Ent} {i j : Nat} (h : j < i) : ek (l.take i) j = ek l j := by
  simp [ek, List.getD_eq_getElem?_getD, h]
def EntAt (w : World) (b o : Nat) (x : Ent) : Prop := w.cell? ⟨b, o, none⟩ = some (.string x.path) ∧ w.cell? ⟨b, o + 1, none⟩ = some (.int .i64 x.kind) ∧ w.cell? ⟨b, o + 2, none⟩ = some (.string x.target) ∧ w.cell? ⟨b, o + 3, none⟩ = some (.int .i64 x.mt.mode) ∧ w.cell? ⟨b, o + 4, none⟩ = some (.int .i64 x.mt.uid) ∧ w.cell? ⟨b, o + 5, none⟩ = some (.int .i64 x.mt.gid) ∧ w.cell? ⟨b, o + 6, none⟩ = some (.string x.mt.user) ∧ w.cell? ⟨b, o + 7, none⟩ = some (.string x.mt.group) ∧ w.cell? ⟨b, o + 8, none⟩ = some (.int .i64 x.mt.second) ∧ w.cell? ⟨b, o + 9, none⟩ = some (.int .i64 x.mt.nano) ∧ w.cell? ⟨b, o + 10, none⟩ = some (.slice x.da x.data.length x.dcap)
def EntsAt (w : World) (b off : Nat) (l : List Ent) : Prop := ∀ i, i < l.length → EntAt w b (off + i * 11) (ek l i)
theorem EntAt.lt {w : World} {b o : Nat} {x : Ent} (h : EntAt w b o x) : b < w.heap.size := World.block_lt_of_cell? w _ h.1
theorem EntAt.below {w w' : World} {b o : Nat} {x : Ent} (h : EntAt w b o x) (hb : Below w.heap.size w w') : EntAt w' b o x := by
  have hlt := h.lt
  obtain ⟨h0, h1, h2, h3, h4, h5, h6, h7, h8, h9, h10⟩ := h
  exact ⟨(hb.cell (p := ⟨b, o, none⟩) hlt).trans h0, (hb.cell (p := ⟨b, o + 1, none⟩) hlt).trans h1, (hb.cell (p := ⟨b, o + 2, none⟩) hlt).trans h2, (hb.cell (p := ⟨b, o + 3, none⟩) hlt).trans h3, (hb.cell (p := ⟨b, o + 4, none⟩) hlt).trans h4, (hb.cell (p := ⟨b, o + 5, none⟩) hlt).trans h5, (hb.cell (p := ⟨b, o + 6, none⟩) hlt).trans h6, (hb.cell (p := ⟨b, o + 7, none⟩) hlt).trans h7, (hb.cell (p := ⟨b, o + 8, none⟩) hlt).trans h8, (hb.cell (p := ⟨b, o + 9, none⟩) hlt).trans h9, (hb.cell (p := ⟨b, o + 10, none⟩) hlt).trans h10⟩
theorem EntAt.zero {w : World} {b : Nat} {x : Ent} (h : EntAt w b 0 x) : w.cell? ⟨b, 0, none⟩ = some (.string x.path) ∧ w.cell? ⟨b, 1, none⟩ = some (.int .i64 x.kind) ∧ w.cell? ⟨b, 2, none⟩ = some (.string x.target) ∧ w.cell? ⟨b, 3, none⟩ = some (.int .i64 x.mt.mode) ∧ w.cell? ⟨b, 4, none⟩ = some (.int .i64 x.mt.uid) ∧ w.cell? ⟨b, 5, none⟩ = some (.int .i64 x.mt.gid) ∧ w.cell? ⟨b, 6, none⟩ = some (.string x.mt.user) ∧ w.cell? ⟨b, 7, none⟩ = some (.string x.mt.group) ∧ w.cell? ⟨b, 8, none⟩ = some (.int .i64 x.mt.second) ∧ w.cell? ⟨b, 9, none⟩ = some (.int .i64 x.mt.nano) ∧ w.cell? ⟨b, 10, none⟩ = some (.slice x.da x.data.length x.dcap) := h
theorem EntsAt.below {w w' : World} {b off : Nat} {l : List Ent} (h : EntsAt w b off l) (hb : Below w.heap.size w w') : EntsAt w' b off l := fun i hi => (h i hi).below hb
theorem EntsAt.take {w : World} {b off : Nat} {l : List Ent} (h : EntsAt w b off l) (i : Nat) : EntsAt w b off (l.take i) := by
  intro j hj
  have hj' : j < i ∧ j < l.length := by simp at hj; omega
  rw [ek_take hj'.1]
  exact h j hj'.2
theorem Ent.Ok.below {N : Nat} {w w' : World} {x : Ent} (h : x.Ok N w) (hb : Below w.heap.size w w') : x.Ok N w' := ⟨h.path, h.kind, h.target, h.mt, h.data.below (fun _ _ h => h) hb⟩
theorem cmpS_zero {x y : ByteArray} : cmpS x y = 0 ↔ x = y := by
  rcases cmpS_cases x y with ⟨h1, h3⟩ | ⟨h1, h2, h3⟩ | ⟨h1, h2, h3⟩
  · rw [h3]
    refine ⟨fun e => (by cases e), fun e => ?_⟩
    subst e
    rw [Go.Proofs.bytesLess_eq] at h1
    exact absurd (of_decide_eq_true h1) (List.lt_irrefl _)
  · exact ⟨fun _ => toList_inj (by simpa using h2), fun _ => h3⟩
  · rw [h3]
    refine ⟨fun e => (by cases e), fun e => ?_⟩
    subst e
    simp at h2
theorem cmpS_neg {x y : ByteArray} : cmpS x y = -1 ↔ x.toList < y.toList := by
  rcases cmpS_cases x y with ⟨h1, h3⟩ | ⟨h1, h2, h3⟩ | ⟨h1, h2, h3⟩
  · rw [Go.Proofs.bytesLess_eq] at h1
    exact ⟨fun _ => of_decide_eq_true h1, fun _ => h3⟩
  · rw [h3]
    rw [Go.Proofs.bytesLess_eq] at h1
    exact ⟨fun e => (by cases e), fun e => absurd e (of_decide_eq_false h1)⟩
  · rw [h3]
    rw [Go.Proofs.bytesLess_eq] at h1
    exact ⟨fun e => (by cases e), fun e => absurd e (of_decide_eq_false h1)⟩
theorem cmpS_tr {x y z : ByteArray} (h1 : cmpS x y = -1) (h2 : cmpS y z = -1) : cmpS x z = -1 := cmpS_neg.2 (List.lt_trans (cmpS_neg.1 h1) (cmpS_neg.1 h2))
theorem cmpS_self (x : ByteArray) : cmpS x x = 0 := cmpS_zero.2 rfl
theorem ordP_self : ∀ X : List ByteArray, ordP X X = 0
  | [] => rfl
  | x :: X => by unfold ordP; rw [if_pos (cmpS_self x)]; exact ordP_self X
theorem ordP_cons {x y : ByteArray} {X Y : List ByteArray} : ordP (x :: X) (y :: Y) = if cmpS x y = 0 then ordP X Y else cmpS x y := rfl
theorem ordP_tr : ∀ {X Y Z : List ByteArray}, ordP X Y = -1 → ordP Y Z = -1 → ordP X Z = -1
  | [], [], _, h1, _ => by cases h1
  | [], _ :: _, [], _, h2 => by cases h2
  | [], _ :: _, _ :: _, _, _ => rfl
  | _ :: _, [], _, h1, _ => by cases h1
  | _ :: _, _ :: _, [], _, h2 => by cases h2
  | x :: X, y :: Y, z :: Z, h1, h2 => by
    rw [ordP_cons] at h1 h2 ⊢
    by_cases e1 : cmpS x y = 0
    · rw [if_pos e1] at h1
      obtain rfl := cmpS_zero.1 e1
      by_cases e2 : cmpS x z = 0
      · rw [if_pos e2] at h2 ⊢
        exact ordP_tr h1 h2
      · rw [if_neg e2] at h2 ⊢
        exact h2
    · rw [if_neg e1] at h1
      by_cases e2 : cmpS y z = 0
      · obtain rfl := cmpS_zero.1 e2
        rw [if_neg e1]
        exact h1
      · rw [if_neg e2] at h2
        have := cmpS_tr h1 h2
        rw [if_neg (by rw [this]; decide)]
        exact this
open Go.RowKit
theorem tree_steps {l : List Nod} (h : treeFault l = 0) : ∀ k, k < l.length → stepF l k = 0 := by
  have hl := (treeFault_all h).1
  have key : ∀ k, k ≤ l.length → ∀ j, j < k → stepF l j = 0 := by
    intro k
    induction k with
    | zero => intro _ j hj; omega
    | succ k ih =>
      intro hk j hj
      by_cases e : j = k
      · subst e
        refine Classical.byContradiction fun hne => ?_
        exact hne ((treeFault_at hl (by omega) (ih (by omega)) rfl hne).symm.trans h)
      · exact ih (by omega) j (by omega)
  exact key _ (Nat.le_refl _)
theorem step_ups {l : List Nod} {i : Nat} (h : stepF l i = 0) : OrdOk l i ∧ UpOk l i := by
  have h0 := (stepF_zero h).1
  have h1 : OrdOk l i := fun hi => Classical.byContradiction fun e => by
    have := stepF_ord h0 hi e
    rw [h] at this; cases this
  refine ⟨h1, fun hu => Classical.byContradiction fun e => ?_⟩
  have := stepF_up h0 h1 hu e
  rw [h] at this; cases this
abbrev PathLt (x y : Nod) : Prop := ordP (pathParts x.path) (pathParts y.path) = -1
abbrev LikeOk (x y : Nod) : Prop := y.same ≠ 0 → x.same = y.same → likeB x y = true
structure TreeP (l : List Nod) : Prop where
  few : l.length ≤ 40
  nod : ∀ x ∈ l, nodFault x = 0
  ord : l.Pairwise PathLt
  ups : ∀ a x b, l = a ++ x :: b → (pathUp x.path).size ≠ 0 → ∃ y ∈ a, y.path = pathUp x.path ∧ y.kind = 2
  like : l.Pairwise LikeOk
theorem nk_mem {l : List Nod} {k : Nat} (h : k < l.length) : nk l k ∈ l := by rw [nk_eq h]; exact List.getElem_mem _
theorem nk_mid (a : List Nod) (x : Nod) (b : List Nod) : nk (a ++ x :: b) a.length = x := by
  rw [nk_eq (by simp)]; simp
theorem pathLt_trans {x y z : Nod} (h1 : PathLt x y) (h2 : PathLt y z) : PathLt x z := ordP_tr h1 h2
theorem TreeP.of {l : List Nod} (h : treeFault l = 0) : TreeP l := by
  have hs := tree_steps h
  obtain ⟨h40, hn⟩ := treeFault_all h
  refine ⟨h40, fun x hx => ?_, ?_, ?_, ?_⟩
  · obtain ⟨i, hi, e⟩ := List.mem_iff_getElem.1 hx
    rw [← e, ← nk_eq hi]; exact hn i hi
  · rw [List.pairwise_iff_getElem]
    have key : ∀ d i, i + d + 1 < l.length → PathLt (nk l i) (nk l (i + d + 1)) := by
      intro d
      induction d with
      | zero => intro i hi; have := (step_ups (hs (i + 1) hi)).1 (by omega); simpa using this
      | succ d ih =>
        intro i hi
        have h1 := ih i (by omega)
        have h2 := (step_ups (hs (i + d + 2) (by omega))).1 (by omega)
        exact pathLt_trans h1 (by simpa [Nat.add_assoc] using h2)
    intro i j hi hj hij
    have := key (j - i - 1) i (by omega)
    rw [show i + (j - i - 1) + 1 = j by omega, nk_eq hi, nk_eq hj] at this
    exact this
  · intro a x b e hu
    have hlen : a.length < l.length := by rw [e]; simp
    have hup := (step_ups (hs a.length hlen)).2
    unfold UpOk at hup
    rw [e, nk_mid, List.take_left] at hup
    obtain ⟨h1, h2⟩ := hup hu
    have hp := treeFind_lt h1
    refine ⟨nk a (treeFind a (pathUp x.path)), nk_mem h1, hp, ?_⟩
    rw [nk_eq h1]
    rw [nk_eq (by simp; omega), List.getElem_append_left h1] at h2
    exact h2
  · rw [List.pairwise_iff_getElem]
    intro i j hi hj hij h1 h2
    have := (stepF_zero (hs j hj)).2
    rw [nk_eq hj] at this
    have := this h1 i hij (by rw [nk_eq hi]; exact h2)
    rw [nk_eq hi] at this
    exact this
theorem TreeP.filter {l : List Nod} (h : TreeP l) {p : Nod → Bool} (hp : ∀ x y, x ∈ l → y ∈ l → p x = true → y.path = pathUp x.path → (pathUp x.path).size ≠ 0 → p y = true) : TreeP (l.filter p) := by
  refine ⟨Nat.le_trans (List.length_filter_le _ _) h.few, fun x hx => h.nod x (List.mem_filter.1 hx).1, h.ord.filter _, ?_, h.like.filter _⟩
  intro a x b e hu
  obtain ⟨l1, l2, e0, e1, e2⟩ := List.filter_eq_append_iff.1 e
  obtain ⟨m1, m2, e3, e4, e5, e6⟩ := List.filter_eq_cons_iff.1 e2
  obtain ⟨y, hy, hyp, hyk⟩ := h.ups (l1 ++ m1) x m2 (by rw [e0, e3, List.append_assoc]) hu
  have hyl : y ∈ l := by rw [e0, e3]; rcases List.mem_append.1 hy with h1 | h1 <;> simp [h1]
  have hxl : x ∈ l := by rw [e0, e3]; simp
  have hpy := hp x y hxl hyl e5 hyp hu
  refine ⟨y, ?_, hyp, hyk⟩
  rw [← e1]
  rcases List.mem_append.1 hy with h1 | h1
  · exact List.mem_filter.2 ⟨h1, hpy⟩
  · exact absurd hpy (e4 y h1)
open Go.RowKit
theorem cmpS_anti (x y : ByteArray) : cmpS y x = - cmpS x y := by
  rcases cmpS_cases x y with ⟨h1, h3⟩ | ⟨h1, h2, h3⟩ | ⟨h1, h2, h3⟩
  · rw [h3]
    have hlt := cmpS_neg.1 h3
    rcases cmpS_cases y x with ⟨g1, g3⟩ | ⟨g1, g2, g3⟩ | ⟨g1, g2, g3⟩
    · exact absurd (List.lt_trans hlt (cmpS_neg.1 g3)) (List.lt_irrefl _)
    · have := cmpS_zero.1 g3
      subst this
      exact absurd hlt (List.lt_irrefl _)
    · rw [g3]; rfl
  · have := cmpS_zero.1 h3
    subst this
    rw [h3]; rfl
  · rw [h3]
    rcases cmpS_cases y x with ⟨g1, g3⟩ | ⟨g1, g2, g3⟩ | ⟨g1, g2, g3⟩
    · rw [g3]
    · have := cmpS_zero.1 g3
      subst this
      rw [cmpS_self] at h3; cases h3
    · exfalso
      rw [Go.Proofs.bytesLess_eq] at h1 g1
      have e : x.toList = y.toList := List.le_antisymm (of_decide_eq_false g1) (of_decide_eq_false h1)
      rw [e] at h2; simp at h2
theorem ordP_anti : ∀ X Y : List ByteArray, ordP Y X = - ordP X Y
  | [], [] => rfl
  | [], _ :: _ => rfl
  | _ :: _, [] => rfl
  | x :: X, y :: Y => by
    rw [ordP_cons, ordP_cons, cmpS_anti x y]
    by_cases h : cmpS x y = 0
    · rw [if_pos h, if_pos (by omega)]; exact ordP_anti X Y
    · rw [if_neg h, if_neg (by omega)]
theorem ordP_zero : ∀ {X Y : List ByteArray}, ordP X Y = 0 → X = Y
  | [], [], _ => rfl
  | [], _ :: _, h => by cases h
  | _ :: _, [], h => by cases h
  | x :: X, y :: Y, h => by
    rw [ordP_cons] at h
    by_cases e : cmpS x y = 0
    · rw [if_pos e] at h
      rw [cmpS_zero.1 e, ordP_zero h]
    · rw [if_neg e] at h; exact absurd h e
end Go.Creel
