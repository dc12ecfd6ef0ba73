/-
  Texts: SameTree, CopyL, CopyR, TreeAll, FindN, EntSpec.
-/
import Derived.Test.YtaffgndickdbiaaDoorT07
set_option linter.unusedVariables false
set_option linter.unusedSimpArgs false
set_option linter.unusedSectionVars false
namespace Go.Creel
theorem bare_parts {x y : Nod} (h : x.bare = y.bare) : x.path = y.path ∧ x.kind = y.kind ∧ x.same = y.same ∧ x.target = y.target ∧ x.mt = y.mt ∧ x.data = y.data := by
  unfold Nod.bare at h
  simp only [Nod.mk.injEq, and_true, true_and] at h
  exact h
theorem bare_nk {l m : List Nod} (h : l.map Nod.bare = m.map Nod.bare) {k : Nat} (hk : k < l.length) : (nk l k).bare = (nk m k).bare := by
  have hl : l.length = m.length := by simpa using congrArg List.length h
  have h2 : (l.map Nod.bare)[k]? = (m.map Nod.bare)[k]? := by rw [h]
  rw [List.getElem?_map, List.getElem?_map, List.getElem?_eq_getElem hk, List.getElem?_eq_getElem (by omega)] at h2
  rw [nk_eq hk, nk_eq (by omega)]
  simpa using h2
theorem bare_len {l m : List Nod} (h : l.map Nod.bare = m.map Nod.bare) : l.length = m.length := by simpa using congrArg List.length h
end Go.Creel
namespace Go.Proofs.YtaffgndickdbiaaDoor
open Go.Creel Go.RowKit
set_option maxRecDepth 100000 in
set_option maxHeartbeats 1000000 in
theorem SameNode_eq (x y : Nod) (w : World) (hxy : x.bare = y.bare) (hx : x.Ok maxLen w) (hy : y.Ok maxLen w) :
    Calls Tryd.prog 39 #[x.val, y.val] w fun e w' => e = .returned (.bool true) ∧ Below w.heap.size w w' := by
  obtain ⟨p, k, s, t, m, da, dc, d⟩ := x
  obtain ⟨p', k', s', t', m', da', dc', d'⟩ := y
  obtain ⟨h1, h2, h3, h4, h5, h6⟩ := bare_parts hxy
  simp only at h1 h2 h3 h4 h5 h6
  subst h1 h2 h3 h4 h5 h6
  have HB := Lib.hid fun o1 o2 : Obj => ((Below.refl w.heap.size w).alloc (Nat.le_refl _) o1).alloc (by simp) o2
  have HS := Lib.hid (fun o1 o2 : Obj => sameBytes_eq (N := maxLen) (M := maxLen) (.slice da d.length dc) (.slice da' d.length dc') d ((w.alloc o1).alloc o2) (hx.data.below (fun _ _ h => h) (HB.out o1 o2)) (hy.data.below (fun _ _ h => h) (HB.out o1 o2)))
  obtain ⟨mo, ui, gi, us, gr, se, na⟩ := m
  have q1 : (p.toList == p.toList) = true := by simp
  have q2 : (k == k) = true := by simp
  have q3 : (s == s) = true := by simp
  have q4 : (t.toList == t.toList) = true := by simp
  have q5 : (mo == mo) = true := by simp
  have q6 : (ui == ui) = true := by simp
  have q7 : (gi == gi) = true := by simp
  have q8 : (us.toList == us.toList) = true := by simp
  have q9 : (gr.toList == gr.toList) = true := by simp
  have q10 : (se == se) = true := by simp
  have q11 : (na == na) = true := by simp
  clear hx hy hxy
  go_enter Tryd.func39, Tryd.ntmps39
  go_wp2_with fail
  refine (HS.out _ _).mono ?_
  rintro e w1 ⟨rfl, rfl⟩
  go_wp2
  go_ret
  exact ⟨rfl, HB.out _ _⟩
set_option maxRecDepth 100000 in
set_option maxHeartbeats 1000000 in
theorem EqualNods_at (b off cap b2 off2 cap2 : Nat) (l m : List Nod) (w : World) (hpos : 0 < l.length) (hlm : l.map Nod.bare = m.map Nod.bare) (hle : l.length ≤ cap) (hm : cap ≤ maxLen) (hle2 : m.length ≤ cap2) (hm2 : cap2 ≤ maxLen) (hc : NodsAt w b off l) (hc2 : NodsAt w b2 off2 m)
    (hk : ∀ i, i < l.length → (nk l i).Ok maxLen w) (hk2 : ∀ i, i < m.length → (nk m i).Ok maxLen w) :
    Calls Tryd.prog 41 #[.slice (some ⟨b, off, none⟩) l.length cap, .slice (some ⟨b2, off2, none⟩) m.length cap2, .func (.func 39) #[] #[]] w fun e w' => e = .returned (.bool true) ∧ Below w.heap.size w w' := by
  have hl := bare_len hlm
  unfold maxLen at hm hm2
  have HC := Lib.hid hc
  have HC2 := Lib.hid (fun i (hi : i < l.length) => hc2 i (by omega))
  have HK := Lib.hid hk
  have HK2 := Lib.hid (fun i (hi : i < l.length) => hk2 i (by omega))
  have HLM := Lib.hid (fun k (hk : k < l.length) => bare_nk hlm hk)
  clear hc hc2 hk hk2 hlm
  rw [← hl] at hle2 ⊢
  clear hl
  generalize hn : l.length = n at *
  go_enter Tryd.func41, Tryd.ntmps41
  go_wp2
  go_loopw [7, 8, 9, 17] (fun _ _ _ i wr => ∃ k : Nat, k ≤ n ∧ i = .int .i64 k ∧ Hid (Below w.heap.size w wr)) (fun _ _ _ i _ => n - (intOf i).toNat)
  case atStart => exact ⟨0, by omega, rfl, Lib.hid (Below.refl _ _)⟩
  case round =>
    obtain ⟨k, hk, rfl, HB⟩ := hrel
    by_cases hlt : k < n
    · obtain ⟨h0, h1, h2, h3, h4, h5, h6, h7, h8, h9, h10, h11⟩ := (HC.out.below HB.out) k (by omega)
      obtain ⟨g0, g1, g2, g3, g4, g5, g6, g7, g8, g9, g10, g11⟩ := ((HC2.out k hlt).below HB.out).below ((Below.refl wr.heap.size wr).alloc (Nat.le_refl _) (boxOf (nk l k)))
      have HS := Lib.hid (fun (w3 : World) (hb : Below wr.heap.size wr w3) => SameNode_eq (nk l k) (nk m k) w3 (HLM.out k hlt) (((HK.out k hlt).below HB.out).below hb) (((HK2.out k hlt).below HB.out).below hb))
      generalize nk l k = x at *
      generalize nk m k = y at *
      go_wp2_with (go_at_call 39; have hbb := ((Below.refl wr.heap.size wr).alloc (Nat.le_refl _) (boxOf x)).alloc (by simp) (boxOf y); refine (HS.out _ hbb).mono ?_; rintro e w' ⟨rfl, hb2⟩; have HB2 := Lib.hid (HB.out.trans ((hbb.trans (hb2.mono hbb.size)).mono HB.out.size)); clear hb2 hbb)
      go_roundw
      case rel => exact ⟨k + 1, by omega, by go_num, HB2⟩
      case measure => simp [intOf]; omega
    · obtain rfl : k = n := by omega
      go_wp2
      go_ret
      exact ⟨rfl, HB.out⟩
set_option maxRecDepth 100000 in
theorem EqualNods_nil (a a2 : Option Addr) (cap cap2 : Nat) (f : Value) (w : World) :
    Calls Tryd.prog 41 #[.slice a 0 cap, .slice a2 0 cap2, f] w fun e w' => e = .returned (.bool true) ∧ w = w' := by
  go_enter Tryd.func41, Tryd.ntmps41
  go_wp2
  go_loop [7, 8, 9, 17] (fun _ _ _ i => i = .int .i64 0) (fun _ _ _ i => 0)
  case atStart => rfl
  case round =>
    obtain rfl := hrel
    go_wp2
    go_ret
    exact ⟨rfl, rfl⟩
set_option maxRecDepth 100000 in
theorem SameTree_eq (v u : Value) (l m : List Nod) (w : World) (hlm : l.map Nod.bare = m.map Nod.bare) (hv : SliceC maxLen 12 (NodC maxLen) w [v] l) (hu : SliceC maxLen 12 (NodC maxLen) w [u] m) :
    Calls Tryd.prog 16 #[v, u] w fun e w' => e = .returned (.bool true) ∧ Below w.heap.size w w' := by
  have hl := bare_len hlm
  have HQ : Hid (Calls Tryd.prog 41 #[v, u, .func (.func 39) #[] #[]] w fun e w' => e = .returned (.bool true) ∧ Below w.heap.size w w') := Lib.hid (by
    rcases nods_cases hv with ⟨a, cap, rfl, rfl, _⟩ | ⟨b, off, cap, rfl, h1, h2, h3, h6, h4, h5⟩
    · rcases nods_cases hu with ⟨a2, cap2, rfl, rfl, _⟩ | ⟨b, off, cap, rfl, h1, h2, h3, h6, h4, h5⟩
      · refine (EqualNods_nil a a2 cap cap2 _ w).mono ?_
        rintro e w' ⟨rfl, rfl⟩
        exact ⟨rfl, Below.refl _ _⟩
      · simp at hl; omega
    · rcases nods_cases hu with ⟨a2, cap2, rfl, rfl, _⟩ | ⟨b2, off2, cap2, rfl, g1, g2, g3, g6, g4, g5⟩
      · simp at hl; simp [hl] at h1
      · exact EqualNods_at b off cap b2 off2 cap2 l m w h1 hlm h2 h3 g2 g3 h4 g4 h5 g5)
  clear hv hu hlm
  go_enter Tryd.func16, Tryd.ntmps16
  go_wp2_with fail
  refine HQ.out.mono ?_
  rintro e w1 ⟨rfl, hb⟩
  have HB := Lib.hid hb
  clear hb
  go_wp2
  go_ret
  exact ⟨rfl, HB.out⟩
end Go.Proofs.YtaffgndickdbiaaDoor
namespace Go.Creel
open Go.RowKit
theorem ownBs_parts {t : TypeId} {w : World} {B : Nat} {v : Value} {l : List UInt8} (h : OwnBs t w B v l) (hl : l.length ≤ maxLen) : ∃ da dcap, v = .slice da l.length dcap ∧ SliceC maxLen 1 ByteC w [.slice da l.length dcap] l ∧ ∀ a, da = some a → B ≤ a.block := by
  rcases h.form with ⟨rfl, rfl⟩ | ⟨g, cap, rfl, hg⟩
  · exact ⟨none, 0, rfl, h.slice hl, fun a ha => by cases ha⟩
  · refine ⟨_, _, rfl, h.slice hl, fun a ha => ?_⟩
    cases ha
    exact (World.ownsRow.lt hg g rfl).1
theorem grownBy_setCell (w : World) (g o : Nat) (u : Value) : w.grownBy (w.setCell ⟨g, o, none⟩ u) (some g) :=
  ⟨rfl, rfl, rfl, by simp, fun k _ hk => heap_setCell_other w ⟨g, o, none⟩ k u (fun e => hk (by simp [e]))⟩
theorem bare_take {l c : List Nod} {k : Nat} {y : Nod} (h : c.map Nod.bare = (l.take k).map Nod.bare) (hk : k < l.length) (hy : y.bare = (nk l k).bare) : (c ++ [y]).map Nod.bare = (l.take (k + 1)).map Nod.bare := by
  rw [List.map_append, h, List.take_succ_eq_append_getElem hk, List.map_append]
  rw [nk_eq hk] at hy
  simp [hy]
def Nod.at (x : Nod) (a : Option Addr) (c : Nat) : Nod := { x with da := a, dcap := c }
theorem Nod.at_ok {w : World} {x : Nod} {a : Option Addr} {c : Nat} (h : x.Ok maxLen w) {w' : World} (hd : SliceC maxLen 1 ByteC w' [.slice a x.data.length c] x.data) : (x.at a c).Ok maxLen w' := ⟨h.path, h.kind, h.same, h.target, h.mt, hd⟩
theorem copied_bytes {t : TypeId} {wr w2 : World} {v1 : Value} {x : Nod} {ty : TypeId} (hd : x.data.length ≤ maxLen)
    (ho : w2.ownsRow (wr.alloc (.cells #[.string x.path, .int .i64 x.kind, .int .i64 x.same, .string x.target, .int .i64 x.mt.mode, .int .i64 x.mt.uid, .int .i64 x.mt.gid, .string x.mt.user, .string x.mt.group, .int .i64 x.mt.second, .int .i64 x.mt.nano, .slice x.da x.data.length x.dcap] ty)).heap.size t 1 v1 (0 + x.data.length) ([] ++ x.data.map byteV))
    (hg : (wr.alloc (.cells #[.string x.path, .int .i64 x.kind, .int .i64 x.same, .string x.target, .int .i64 x.mt.mode, .int .i64 x.mt.uid, .int .i64 x.mt.gid, .string x.mt.user, .string x.mt.group, .int .i64 x.mt.second, .int .i64 x.mt.nano, .slice x.da x.data.length x.dcap] ty)).grownBy w2 (Value.ownBlock (.slice none 0 0))) :
    ∃ da dc, v1 = .slice da x.data.length dc ∧ Hid (NodAt w2 wr.heap.size 0 x ∧ w2.frozen? ⟨wr.heap.size, 11, none⟩ = false ∧ Below wr.heap.size wr (w2.setCell ⟨wr.heap.size, 11, none⟩ (.slice da x.data.length dc)) ∧
      SliceC maxLen 1 ByteC (w2.setCell ⟨wr.heap.size, 11, none⟩ (.slice da x.data.length dc)) [.slice da x.data.length dc] x.data ∧ ∀ a, da = some a → wr.heap.size ≤ a.block) := by
  obtain ⟨da, dc, hv, hsl, hbl⟩ := ownBs_parts (show OwnBs _ _ _ _ x.data from OwnBs.app (l := []) ho) hd
  have hlt1 : wr.heap.size < (wr.alloc (.cells #[.string x.path, .int .i64 x.kind, .int .i64 x.same, .string x.target, .int .i64 x.mt.mode, .int .i64 x.mt.uid, .int .i64 x.mt.gid, .string x.mt.user, .string x.mt.group, .int .i64 x.mt.second, .int .i64 x.mt.nano, .slice x.da x.data.length x.dcap] ty)).heap.size := by simp
  have hb1 := (Below.refl wr.heap.size wr).alloc (Nat.le_refl _) (.cells #[.string x.path, .int .i64 x.kind, .int .i64 x.same, .string x.target, .int .i64 x.mt.mode, .int .i64 x.mt.uid, .int .i64 x.mt.gid, .string x.mt.user, .string x.mt.group, .int .i64 x.mt.second, .int .i64 x.mt.nano, .slice x.da x.data.length x.dcap] ty)
  have hb2 := (Below.refl _ _).grown hg (Nat.le_refl _) (fun k hk => by simp [Value.ownBlock] at hk)
  have hg3 := grownBy_setCell w2 wr.heap.size 11 (.slice da x.data.length dc)
  refine ⟨da, dc, hv, Lib.hid ⟨(nodAt_box wr x ty).below hb2, (hb2.frozen (p := ⟨wr.heap.size, 11, none⟩) hlt1).trans (by simp), (hb1.trans (hb2.mono (Nat.le_of_lt hlt1))).setCell (Nat.le_refl _) _, ?_, fun a ha => ?_⟩⟩
  · exact bytesC_grown hsl hg3 (fun p hp ha => by have := hbl p ha; simp only [ne_eq, Option.some.injEq]; omega)
  · have := hbl a ha
    omega
theorem copied_in {t : TypeId} {wr W : World} {B : Nat} {v : Value} {c : List Nod} {x : Nod} {da : Option Addr} {dc : Nat} (o : Obj) (hown : OwnNods t wr B v c) (hx : x.Ok maxLen wr)
    (hsl : SliceC maxLen 1 ByteC W [.slice da x.data.length dc] x.data) (hbl : ∀ a, da = some a → wr.heap.size ≤ a.block) : NodIn (W.alloc o) v (x.at da dc) := by
  refine ⟨Nod.at_ok hx (hsl.below (fun _ _ h => h) ((Below.refl _ _).alloc (Nat.le_refl _) o)), fun a _ ha e => ?_⟩
  have h1 := hbl a ha
  have h2 := (World.ownsRow.lt hown.1 _ e).2
  omega
theorem src_nod_at {P : Program} (w : World) {n : Nat} (hn : n = w.heap.size) (tx e' e : TypeId) (hk : P.underlying tx = some (.slice e')) (x : Nod) : Src P 12 tx (.slice (some ⟨n, 0, none⟩) 1 1) 1 ([x].flatMap Nod.cells) (w.alloc (.cells #[.string x.path, .int .i64 x.kind, .int .i64 x.same, .string x.target, .int .i64 x.mt.mode, .int .i64 x.mt.uid, .int .i64 x.mt.gid, .string x.mt.user, .string x.mt.group, .int .i64 x.mt.second, .int .i64 x.mt.nano, .slice x.da x.data.length x.dcap] e)) := by
  subst hn
  exact src_nod w tx e' e hk x
end Go.Creel
namespace Go.Proofs.YtaffgndickdbiaaDoor
open Go.Creel Go.RowKit
theorem info_node : (Tryd.prog.info? 60).map (fun i => (i.zero, i.size, i.bytes)) = some (some (.agg #[.string ⟨#[]⟩, .int .i64 0, .int .i64 0, .string ⟨#[]⟩, .int .i64 0, .int .i64 0, .int .i64 0, .string ⟨#[]⟩, .string ⟨#[]⟩, .int .i64 0, .int .i64 0, .slice none 0 0]), 12, 144) := by kernel_rfl
theorem info_byteC : (Tryd.prog.info? 5).map (fun i => (i.zero, i.size, i.bytes)) = some (some (.int .u8 0), 1, 1) := by kernel_rfl
set_option maxRecDepth 100000 in
set_option maxHeartbeats 4000000 in
theorem CopyL_at (b off cap : Nat) (l : List Nod) (w : World) (hpos : 0 < l.length) (hfew : l.length ≤ 8000000000) (hle : l.length ≤ cap) (hm : cap ≤ maxLen) (hc : NodsAt w b off l) (hok : ∀ i, i < l.length → (nk l i).Ok maxLen w) (hdat : ∀ i, i < l.length → (nk l i).data.length ≤ 140737488355328) :
    Calls Tryd.prog 44 #[.slice (some ⟨b, off, none⟩) l.length cap] w (RetT 60 w l) := by
  obtain ⟨i0, hi, hz0, hz1, hz2⟩ := info_parts info_node
  have HI := Lib.hid (And.intro hi (And.intro hz0 (And.intro hz1 hz2)))
  clear hi hz0 hz1 hz2
  obtain ⟨i1, hi, hz0, hz1, hz2⟩ := info_parts info_byteC
  have HJ := Lib.hid (And.intro hi (And.intro hz0 (And.intro hz1 hz2)))
  have HC := Lib.hid hc
  have HK := Lib.hid hok
  have HD := Lib.hid hdat
  unfold maxLen at hm
  clear hc hok hdat hi hz0 hz1 hz2
  go_enter Tryd.func44, Tryd.ntmps44
  go_wp2_with (at_make; refine wpList_make_own _ rfl _ _ 22 rfl w.heap.size 60 i0 _ 12 Tryd.underlying22 HI.out.1 HI.out.2.1 HI.out.2.2.1 .i64 .i64 _ l.length rfl rfl (by first | rfl | omega) (by rw [HI.out.2.2.2]; omega) (by unfold maxLen; omega) (Nat.le_refl _) ?_; intro w5 hown hgr)
  have HOW5 := Lib.hid (show OwnNods 60 w5 w.heap.size (.slice (some ⟨w.heap.size, 0, none⟩) 0 l.length) [] from ⟨hown, fun x hx => absurd hx (by simp)⟩)
  have HB5 := Lib.hid ((Below.refl w.heap.size w).grown hgr (Nat.le_refl _) (fun x hx => by cases hx))
  clear hown hgr
  go_loopw [3, 5, 11] (fun v _ i wr => ∃ (k : Nat) (c : List Nod), k ≤ l.length ∧ i = .int .i64 k ∧ c.length = k ∧ Hid (OwnNods 60 wr w.heap.size v c) ∧ Hid (c.map Nod.bare = (l.take k).map Nod.bare) ∧ Hid (Below w.heap.size w wr)) (fun _ _ i _ => l.length - (intOf i).toNat)
  case atStart => exact ⟨0, [], by omega, rfl, rfl, HOW5, Lib.hid rfl, HB5⟩
  case round =>
    obtain ⟨k, c, hk, rfl, hck, HOW, HBR, HB⟩ := hrel
    by_cases hlt : k < l.length
    · obtain ⟨h0, h1, h2, h3, h4, h5, h6, h7, h8, h9, h10, h11⟩ := (HC.out.below HB.out) k hlt
      have hxl := HD.out k hlt
      have HOB := Lib.hid HB.out.size
      have HKX := Lib.hid ((HK.out k hlt).below HB.out)
      have HBY := Lib.hid (fun (y : Nod) (hy : y.bare = (nk l k).bare) => bare_take HBR.out hlt hy)
      generalize nk l k = x at *
      have hbx := (Below.refl wr.heap.size wr).alloc (Nat.le_refl _) (boxOf x)
      have HBX := Lib.hid hbx
      have hxd : SliceC maxLen 1 ByteC (wr.alloc (boxOf x)) [.slice x.da x.data.length x.dcap] x.data := HKX.out.data.below (fun _ _ h => h) hbx
      clear hbx
      have happ : ∀ ty, AppTo Tryd.prog (wr.alloc (boxOf x)) 38 38 ty (.slice none 0 0) (.slice x.da x.data.length x.dcap) (wr.alloc (boxOf x)).heap.size 5 1 0 x.data.length [] (x.data.map byteV) := fun ty => app_bytes (l := []) (wr.alloc (boxOf x)) 38 38 5 5 i1 Tryd.underlying38 Tryd.underlying38 HJ.out.1 HJ.out.2.1 HJ.out.2.2.1 HJ.out.2.2.2 (OwnBs.nil _ _ _) hxd (by simp; omega) (Nat.le_refl _) ty
      have HAPP := Lib.hid happ
      clear happ
      have hob := HOB.out
      go_wp2_with (first
        | (at_builtin; refine wpList_app _ rfl (.const (.slice none 0 0)) (.tmp 16) 38 38 rfl _ _ rfl rfl HAPP.out ?_; intro v1 w2 ho hg _; obtain ⟨da, dc, rfl, HP2⟩ := copied_bytes (by unfold maxLen; omega) ho hg; obtain ⟨⟨c0, c1, c2, c3, c4, c5, c6, c7, c8, c9, c10, c11⟩, hfz, _⟩ := HP2.out; simp only [Nat.zero_add] at c1 c2 c3 c4 c5 c6 c7 c8 c9 c10 c11; clear ho hg)
        | (at_builtin; have HO3 := Lib.hid (HOW.out.below (HP2.out.2.2.1.alloc HP2.out.2.2.1.size (boxOf (x.at da dc)))); have HN3 := Lib.hid (copied_in (boxOf (x.at da dc)) HOW.out HKX.out HP2.out.2.2.2.1 HP2.out.2.2.2.2); refine wpList_app _ rfl (.tmp 19) (.tmp 21) 22 22 rfl _ _ rfl rfl (fun ty => app_src _ 22 22 ty w.heap.size 60 i0 _ 12 144 Tryd.underlying22 HI.out.1 HI.out.2.1 HI.out.2.2.1 HI.out.2.2.2 rfl (by decide) _ _ c.length 1 _ _ HO3.out.1 (src_nod_at (w2.setCell ⟨wr.heap.size, 11, none⟩ (.slice da x.data.length dc)) (show w2.heap.size = _ by simp) _ _ _ Tryd.underlying22 (x.at da dc)) (by unfold maxLen; omega) (by omega) (Nat.le_trans HOB.out (HP2.out.2.2.1.alloc HP2.out.2.2.1.size (boxOf (x.at da dc))).size)) ?_; intro v2 w4 ho2 hg2 hv2; have HZ := Lib.hid (And.intro ho2 (And.intro hg2 hv2)); clear ho2 hg2 hv2))
      have HO4 := Lib.hid (HO3.out.app (m := [x.at da dc]) (fun y hy => by rw [List.mem_singleton.1 hy]; exact HN3.out) HZ.out.1 HZ.out.2.1 HZ.out.2.2.2)
      have HB3 := Lib.hid (HB.out.trans ((HP2.out.2.2.1.alloc HP2.out.2.2.1.size (boxOf (x.at da dc))).mono HB.out.size))
      have HB4 := Lib.hid (below_app HB3.out HZ.out.2.1 HO3.out.1 HB3.out.size)
      go_wp2
      go_roundw
      case rel => exact ⟨k + 1, c ++ [x.at da dc], by omega, by go_num, by simp [hck], HO4, Lib.hid (HBY.out _ rfl), HB4⟩
      case measure => simp [intOf]; omega
    · obtain rfl : k = l.length := by omega
      go_wp2
      go_ret
      rw [List.take_length] at HBR
      exact ⟨_, c, rfl, HOW.out, HBR.out, HB.out⟩
set_option maxRecDepth 100000 in
theorem CopyL_nil (a : Option Addr) (cap : Nat) (w : World) : Calls Tryd.prog 44 #[.slice a 0 cap] w (RetT 60 w []) := by
  obtain ⟨i0, hi, hz0, hz1, hz2⟩ := info_parts info_node
  have HI := Lib.hid (And.intro hi (And.intro hz0 (And.intro hz1 hz2)))
  clear hi hz0 hz1 hz2
  go_enter Tryd.func44, Tryd.ntmps44
  go_wp2_with (at_make; refine wpList_make_own _ rfl _ _ 22 rfl w.heap.size 60 i0 _ 12 Tryd.underlying22 HI.out.1 HI.out.2.1 HI.out.2.2.1 .i64 .i64 _ 0 rfl rfl rfl (by omega) (by unfold maxLen; omega) (Nat.le_refl _) ?_; intro w5 hown hgr)
  have HOW5 := Lib.hid (show OwnNods 60 w5 w.heap.size (.slice (some ⟨w.heap.size, 0, none⟩) 0 0) [] from ⟨hown, fun x hx => absurd hx (by simp)⟩)
  have HB5 := Lib.hid ((Below.refl w.heap.size w).grown hgr (Nat.le_refl _) (fun x hx => by cases hx))
  clear hown hgr
  go_loop [3, 5, 11] (fun v _ i => i = .int .i64 0 ∧ v = .slice (some ⟨w.heap.size, 0, none⟩) 0 0) (fun _ _ _ => 0)
  case atStart => exact ⟨rfl, rfl⟩
  case round =>
    obtain ⟨rfl, rfl⟩ := hrel
    go_wp2
    go_ret
    exact ⟨_, [], rfl, HOW5.out, rfl, HB5.out⟩
theorem CopyL_any (v : Value) (l : List Nod) (w : World) (h : SliceC maxLen 12 (NodC maxLen) w [v] l) (hfew : l.length ≤ 8000000000) (hdat : ∀ i, i < l.length → (nk l i).data.length ≤ 140737488355328) :
    Calls Tryd.prog 44 #[v] w (RetT 60 w l) := by
  rcases nods_cases h with ⟨a, cap, rfl, rfl, _⟩ | ⟨b, off, cap, rfl, h1, h2, h3, h6, h4, h5⟩
  · exact CopyL_nil a cap w
  · exact CopyL_at b off cap l w h1 hfew h2 h3 h4 h5 hdat
end Go.Proofs.YtaffgndickdbiaaDoor
namespace Go.Creel
open Go.RowKit
theorem put_new {t : TypeId} {W w1 : World} {B k : Nat} {v v1 : Value} {c : List Nod} {x : Nod} (hown : OwnNods t W B v c) (hx : NodIn W v x) (hk : c.length = k) (ho : w1.ownsRow B t 12 v1 (c.length + 1) (c.flatMap Nod.cells ++ [x].flatMap Nod.cells)) (hg : W.grownBy w1 v.ownBlock)
    (hv : v1.ownBlock = v.ownBlock ∨ ∃ b, v1.ownBlock = some b ∧ W.heap.size ≤ b) : ∃ g cap, v1 = .slice (some ⟨g, 0, none⟩) (k + 1) cap ∧ Hid (OwnNods t w1 B (.slice (some ⟨g, 0, none⟩) (k + 1) cap) (c ++ [x]) ∧ B ≤ g) := by
  have h := hown.app (m := [x]) (fun y hy => by rw [List.mem_singleton.1 hy]; exact hx) ho hg hv
  rcases h.form with ⟨_, h0⟩ | ⟨g, cap, rfl, h1, _⟩
  · simp at h0
  · have e : (c ++ [x]).length = k + 1 := by simp [hk]
    rw [e] at h ⊢
    exact ⟨g, cap, rfl, Lib.hid ⟨h, h1⟩⟩
theorem nodIn_arg {t : TypeId} {w W W' : World} {v : Value} {c : List Nod} {x : Nod} (hx : x.Ok maxLen w) (hb : Below w.heap.size w W) (hown : OwnNods t W' w.heap.size v c) : NodIn W v x :=
  ⟨hx.below hb, fun a hp ha e => by
    have h1 := hx.lt a hp ha
    have h2 := (World.ownsRow.lt hown.1 _ e).1
    omega⟩
theorem nk_last {c : List Nod} {x : Nod} {k : Nat} (hk : c.length = k) : nk (c ++ [x]) k = x := by
  subst hk
  simp [nk, List.getD_eq_getElem?_getD]
theorem set_last {c : List Nod} {x y : Nod} {k : Nat} (hk : c.length = k) : (c ++ [x]).set k y = c ++ [y] := by
  subst hk
  simp
theorem copied_into {t tb : TypeId} {w1 w2 : World} {v2 : Value} {B g cp k : Nat} {c : List Nod} {x : Nod} (hown : OwnNods t w1 B (.slice (some ⟨g, 0, none⟩) (k + 1) cp) (c ++ [x])) (hck : c.length = k) (hd : x.data.length ≤ maxLen)
    (ho : w2.ownsRow w1.heap.size tb 1 v2 (0 + x.data.length) ([] ++ x.data.map byteV)) (hg : (w1.alloc (.cells #[] tb)).grownBy w2 (Value.ownBlock (.slice (some ⟨w1.heap.size, 0, none⟩) 0 0))) :
    ∃ da dc, v2 = .slice da x.data.length dc ∧ Hid (Below w1.heap.size w1 w2 ∧ w2.cell? ⟨g, k * 12 + 11, none⟩ = some (.slice x.da x.data.length x.dcap) ∧ w2.frozen? ⟨g, k * 12 + 11, none⟩ = false ∧
      OwnNods t (w2.setCell ⟨g, k * 12 + 11, none⟩ (.slice da x.data.length dc)) B (.slice (some ⟨g, 0, none⟩) (k + 1) cp) (c ++ [x.at da dc]) ∧ B ≤ g ∧ ∀ a, da = some a → w1.heap.size ≤ a.block) := by
  obtain ⟨da, dc, hv, hsl, hbl⟩ := ownBs_parts (show OwnBs _ _ _ _ x.data from OwnBs.app (l := []) ho) hd
  have hb1 := (Below.refl w1.heap.size w1).alloc (Nat.le_refl _) (.cells #[] tb)
  have hb2 := hb1.grown hg hb1.size (fun k hk => by simp [Value.ownBlock] at hk; omega)
  have e : (c ++ [x]).length = k + 1 := by simp [hck]
  have hO2 := hown.below hb2
  rw [← e] at hO2
  have hk : k < (c ++ [x]).length := by omega
  have hx2 := (hO2.nodIn hk).1
  have hn := hO2.nodAt hk
  rw [nk_last hck] at hx2 hn
  obtain ⟨_, _, _, _, _, _, _, _, _, _, _, h11⟩ := hn
  have hlt := (World.ownsRow.lt hown.1 g rfl)
  have hp := hO2.put (k := k) (j := 11) hk (by omega) (x.at da dc) (.slice da x.data.length dc) (by rw [nk_last hck]; rfl) ⟨Nod.at_ok hx2 hsl, fun a _ ha e => by
    have h1 := hbl a ha
    simp only [Value.ownBlock, Option.some.injEq] at e
    omega⟩
  rw [e, set_last hck] at hp
  exact ⟨da, dc, hv, Lib.hid ⟨hb2, h11, hO2.1.frozenAt _, hp.1, hlt.1, hbl⟩⟩
def RetTG (t : TypeId) (w : World) (l : List Nod) (e : Ending) (w' : World) : Prop := ∃ v l', e = .returned v ∧ OwnNods t w' w.heap.size v l' ∧ l'.map Nod.bare = l.map Nod.bare ∧ Below w.heap.size w w' ∧ ∀ x ∈ l', ∀ a, x.da = some a → w.heap.size ≤ a.block
theorem RetTG.ret {t : TypeId} {w w' : World} {l : List Nod} {e : Ending} (h : RetTG t w l e w') : RetT t w l e w' := by
  obtain ⟨v, l', h1, h2, h3, h4, _⟩ := h
  exact ⟨v, l', h1, h2, h3, h4⟩
end Go.Creel
namespace Go.Proofs.YtaffgndickdbiaaDoor
open Go.Creel Go.RowKit
set_option maxRecDepth 100000 in
set_option maxHeartbeats 4000000 in
theorem CopyRG_at (b off cap : Nat) (l : List Nod) (w : World) (hpos : 0 < l.length) (hfew : l.length ≤ 8000000000) (hle : l.length ≤ cap) (hm : cap ≤ maxLen) (hc : NodsAt w b off l) (hok : ∀ i, i < l.length → (nk l i).Ok maxLen w) (hdat : ∀ i, i < l.length → (nk l i).data.length ≤ 140737488355328) :
    Calls Tryd.prog 35 #[.slice (some ⟨b, off, none⟩) l.length cap] w (RetTG 60 w l) := by
  obtain ⟨i0, hi, hz0, hz1, hz2⟩ := info_parts info_node
  have HI := Lib.hid (And.intro hi (And.intro hz0 (And.intro hz1 hz2)))
  clear hi hz0 hz1 hz2
  obtain ⟨i1, hi, hz0, hz1, hz2⟩ := info_parts info_byteC
  have HJ := Lib.hid (And.intro hi (And.intro hz0 (And.intro hz1 hz2)))
  have HC := Lib.hid hc
  have HK := Lib.hid hok
  have HD := Lib.hid hdat
  unfold maxLen at hm
  clear hc hok hdat hi hz0 hz1 hz2
  go_enter Tryd.func35, Tryd.ntmps35
  go_wp2
  go_loopw [3, 4] (fun v i wr => ∃ (k : Nat) (c : List Nod), k ≤ l.length ∧ i = .int .i64 k ∧ c.length = k ∧ Hid (OwnNods 60 wr w.heap.size v c) ∧ Hid (c.map Nod.bare = (l.take k).map Nod.bare) ∧ Hid (Below w.heap.size w wr) ∧ Hid (∀ x ∈ c, ∀ a, x.da = some a → w.heap.size ≤ a.block)) (fun _ i _ => l.length - (intOf i).toNat)
  case atStart => exact ⟨0, [], by omega, rfl, rfl, Lib.hid (OwnNods.nil _ _ _), Lib.hid rfl, Lib.hid (Below.refl _ _), Lib.hid (fun x hx => absurd hx (by simp))⟩
  case round =>
    obtain ⟨k, c, hk, rfl, hck, HOW, HBR, HB, HFR⟩ := hrel
    by_cases hlt : k < l.length
    · obtain ⟨h0, h1, h2, h3, h4, h5, h6, h7, h8, h9, h10, h11⟩ := (HC.out.below HB.out) k hlt
      have hxl := HD.out k hlt
      have HKX := Lib.hid (HK.out k hlt)
      have HCK := Lib.hid (HC.out k hlt)
      have HBY := Lib.hid (fun (y : Nod) (hy : y.bare = (nk l k).bare) => bare_take HBR.out hlt hy)
      generalize nk l k = x at *
      have HA := Lib.hid (HB.out.alloc HB.out.size (boxOf x))
      have HOA := Lib.hid (HOW.out.below ((Below.refl wr.heap.size wr).alloc (Nat.le_refl _) (boxOf x)))
      have HNX := Lib.hid (nodIn_arg HKX.out HA.out HOW.out)
      go_wp2_with (first
        | (at_builtin; refine wpList_app _ rfl (.tmp 11) (.tmp 16) 22 22 rfl _ _ rfl rfl (fun ty => app_src _ 22 22 ty w.heap.size 60 i0 _ 12 144 Tryd.underlying22 HI.out.1 HI.out.2.1 HI.out.2.2.1 HI.out.2.2.2 rfl (by decide) _ _ c.length 1 _ _ HOA.out.1 (src_nod wr _ _ _ Tryd.underlying22 x) (by unfold maxLen; omega) (by omega) HA.out.size) ?_; intro v1 w1 ho hg hv; have HB1 := Lib.hid (below_app HA.out hg HOA.out.1 HA.out.size); obtain ⟨g, cp, rfl, HP1⟩ := put_new HOA.out HNX.out hck ho hg hv.2; clear ho hg hv; obtain ⟨_, _, _, _, _, _, _, _, _, _, _, d11⟩ := (HCK.out.below HB1.out).below ((Below.refl w1.heap.size w1).alloc (Nat.le_refl _) (.cells #[] 5)))
        | (at_builtin; refine wpList_app _ rfl (.tmp 20) (.tmp 25) 38 38 rfl _ _ rfl rfl (fun ty => app_bytes (l := []) (w1.alloc (.cells #[] 5)) 38 38 5 5 i1 Tryd.underlying38 Tryd.underlying38 HJ.out.1 HJ.out.2.1 HJ.out.2.2.1 HJ.out.2.2.2 (World.ownsRow_made w1 #[] 0 (Nat.le_refl _) (by unfold maxLen; omega) rfl) ((HKX.out.below HB1.out).data.below (fun _ _ h => h) ((Below.refl w1.heap.size w1).alloc (Nat.le_refl _) (.cells #[] 5))) (by simp; omega) ((Below.refl w1.heap.size w1).alloc (Nat.le_refl _) (.cells #[] 5)).size ty) ?_; intro v2 w2 ho hg _; obtain ⟨da, dc, rfl, HP2⟩ := copied_into HP1.out.1 hck (by unfold maxLen; omega) ho hg; have hcc := HP2.out.2.1; have hff := HP2.out.2.2.1; clear ho hg))
      go_roundw
      case rel => exact ⟨k + 1, c ++ [x.at da dc], by omega, by go_num, by simp [hck], Lib.hid HP2.out.2.2.2.1, Lib.hid (HBY.out _ rfl), Lib.hid ((HB1.out.trans (HP2.out.1.mono HB1.out.size)).setCell HP2.out.2.2.2.2.1 _), Lib.hid (fun y hy a ha => by
        rcases List.mem_append.1 hy with h | h
        · exact HFR.out y h a ha
        · rw [List.mem_singleton.1 h] at ha
          exact Nat.le_trans HB1.out.size (HP2.out.2.2.2.2.2 a ha))⟩
      case measure => simp [intOf]; omega
    · obtain rfl : k = l.length := by omega
      rw [List.take_length] at HBR
      go_wp2
      go_ret
      exact ⟨_, c, rfl, HOW.out, HBR.out, HB.out, HFR.out⟩
theorem CopyR_at (b off cap : Nat) (l : List Nod) (w : World) (hpos : 0 < l.length) (hfew : l.length ≤ 8000000000) (hle : l.length ≤ cap) (hm : cap ≤ maxLen) (hc : NodsAt w b off l) (hok : ∀ i, i < l.length → (nk l i).Ok maxLen w) (hdat : ∀ i, i < l.length → (nk l i).data.length ≤ 140737488355328) :
    Calls Tryd.prog 35 #[.slice (some ⟨b, off, none⟩) l.length cap] w (RetT 60 w l) := (CopyRG_at b off cap l w hpos hfew hle hm hc hok hdat).mono fun _ _ h => h.ret
set_option maxRecDepth 100000 in
theorem CopyR_nil (a : Option Addr) (cap : Nat) (w : World) : Calls Tryd.prog 35 #[.slice a 0 cap] w (RetT 60 w []) := by
  go_enter Tryd.func35, Tryd.ntmps35
  go_wp2
  go_loop [3, 4] (fun v i => i = .int .i64 0 ∧ v = .slice none 0 0) (fun _ _ => 0)
  case atStart => exact ⟨rfl, rfl⟩
  case round =>
    obtain ⟨rfl, rfl⟩ := hrel
    go_wp2
    go_ret
    exact ⟨_, [], rfl, OwnNods.nil _ _ _, rfl, Below.refl _ _⟩
theorem CopyR_any (v : Value) (l : List Nod) (w : World) (h : SliceC maxLen 12 (NodC maxLen) w [v] l) (hfew : l.length ≤ 8000000000) (hdat : ∀ i, i < l.length → (nk l i).data.length ≤ 140737488355328) :
    Calls Tryd.prog 35 #[v] w (RetT 60 w l) := by
  rcases nods_cases h with ⟨a, cap, rfl, rfl, _⟩ | ⟨b, off, cap, rfl, h1, h2, h3, h6, h4, h5⟩
  · exact CopyR_nil a cap w
  · exact CopyR_at b off cap l w h1 hfew h2 h3 h4 h5 hdat
end Go.Proofs.YtaffgndickdbiaaDoor
namespace Go.Creel
open Go.RowKit
theorem treeFault_all {l : List Nod} (h : treeFault l = 0) : l.length ≤ 40 ∧ ∀ k, k < l.length → nodFault (nk l k) = 0 := by
  have hl : l.length ≤ 40 := by
    rcases Nat.lt_or_ge 40 l.length with e | e
    · rw [treeFault_many e] at h; cases h
    · exact e
  refine ⟨hl, ?_⟩
  have key : ∀ k, k ≤ l.length → ∀ j, j < k → stepF l j = 0 := by
    intro k
    induction k with
    | zero => intro _ j hj; omega
    | succ k ih =>
      intro hk j hj
      by_cases e : j = k
      · subst e
        refine Classical.byContradiction fun hne => ?_
        exact hne ((treeFault_at hl (by omega) (ih (by omega)) rfl hne).symm.trans h)
      · exact ih (by omega) j (by omega)
  intro k hk
  exact (stepF_zero (key _ (Nat.le_refl _) k hk)).1
open Classical in
theorem take_nk {l : List Nod} {k : Nat} (h : k < l.length) : l.take (k + 1) = l.take k ++ [nk l k] := by rw [List.take_succ_eq_append_getElem h, nk_eq h]
open Go.RowKit
theorem treeFind_lt : ∀ {l : List Nod} {s : ByteArray}, treeFind l s < l.length → (nk l (treeFind l s)).path = s
  | [], _, h => absurd h (by simp)
  | x :: t, s, h => by
    unfold treeFind at h ⊢
    by_cases e : x.path = s
    · rw [if_pos e]; exact e
    · rw [if_neg e] at h ⊢
      have h' : treeFind t s < t.length := by simp at h; omega
      exact treeFind_lt h'
theorem nodFault_dat {x : Nod} (h : nodFault x = 0) : x.data.length ≤ 2000 := by
  unfold nodFault nodFaultN at h
  split at h
  · rename_i h1; exact absurd h h1
  · split at h
    · rename_i h1; exact absurd h h1
    · split at h
      · split at h
        · cases h
        · split at h
          · cases h
          · omega
      · split at h
        · split at h
          · cases h
          · rename_i h1; omega
        · cases h
end Go.Creel
namespace Go.Proofs.YtaffgndickdbiaaDoor
open Go.Creel Go.RowKit
theorem FindN_any (v : Value) (l : List Nod) (s : ByteArray) (w : World) (h : SliceC maxLen 12 (NodC maxLen) w [v] l) :
    Calls Tryd.prog 48 #[v, .string s] w fun e w' => e = .returned (.tuple #[.int .i64 (findIE (treeFind l s) l.length).1, .int .i64 (findIE (treeFind l s) l.length).2]) ∧ Below w.heap.size w w' := by
  rcases nods_cases h with ⟨a, cap, rfl, rfl, _⟩ | ⟨b, off, cap, rfl, h1, h2, h3, h6, h4, h5⟩
  · exact Find_nil a cap s w
  · exact Find_at b off cap l s w h2 h3 h4
theorem TreeFindN_any (v : Value) (l : List Nod) (s : ByteArray) (w : World) (h : SliceC maxLen 12 (NodC maxLen) w [v] l) :
    Calls Tryd.prog 34 #[v, .string s] w fun e w' => e = .returned (.int .i64 (treeFind l s)) ∧ w = w' := by
  rcases nods_cases h with ⟨a, cap, rfl, rfl, _⟩ | ⟨b, off, cap, rfl, h1, h2, h3, h6, h4, h5⟩
  · exact TreeFind_nil a cap s w
  · exact TreeFind_at b off cap l s w h2 h3 h4
end Go.Proofs.YtaffgndickdbiaaDoor
namespace Go.Creel
abbrev Ent.val (e : Ent) : Value := .agg #[.string e.path, .int .i64 e.kind, .string e.target, .int .i64 e.mt.mode, .int .i64 e.mt.uid, .int .i64 e.mt.gid, .string e.mt.user, .string e.mt.group, .int .i64 e.mt.second, .int .i64 e.mt.nano, .slice e.da e.data.length e.dcap]
end Go.Creel
