/-
  creelref.TreeCopy.
-/
import Derived.Test.YtaffgndickdbiaaDoorCopyL
namespace Go.Creel
set_option linter.unusedVariables false
set_option linter.unusedSimpArgs false
open Go.RowKit
/-- a node put behind the others -/
theorem put_new {t : TypeId} {W w1 : World} {B k : Nat} {v v1 : Value} {c : List Nod} {x : Nod} (hown : OwnNods t W B v c) (hx : NodIn W v x) (hk : c.length = k) (ho : w1.ownsRow B t 12 v1 (c.length + 1) (c.flatMap Nod.cells ++ [x].flatMap Nod.cells)) (hg : W.grownBy w1 v.ownBlock)
    (hv : v1.ownBlock = v.ownBlock ∨ ∃ b, v1.ownBlock = some b ∧ W.heap.size ≤ b) : ∃ g cap, v1 = .slice (some ⟨g, 0, none⟩) (k + 1) cap ∧ Hid (OwnNods t w1 B (.slice (some ⟨g, 0, none⟩) (k + 1) cap) (c ++ [x]) ∧ B ≤ g) := by
  have h := hown.app (m := [x]) (fun y hy => by rw [List.mem_singleton.1 hy]; exact hx) ho hg hv
  rcases h.form with ⟨_, h0⟩ | ⟨g, cap, rfl, h1, _⟩
  · simp at h0
  · have e : (c ++ [x]).length = k + 1 := by simp [hk]
    rw [e] at h ⊢
    exact ⟨g, cap, rfl, Lib.hid ⟨h, h1⟩⟩
theorem nodIn_arg {t : TypeId} {w W W' : World} {v : Value} {c : List Nod} {x : Nod} (hx : x.Ok maxLen w) (hb : Below w.heap.size w W) (hown : OwnNods t W' w.heap.size v c) : NodIn W v x :=
  ⟨hx.below hb, fun a hp ha e => by
    have h1 := hx.lt a hp ha
    have h2 := (World.ownsRow.lt hown.1 _ e).1
    omega⟩
theorem nk_last {c : List Nod} {x : Nod} {k : Nat} (hk : c.length = k) : nk (c ++ [x]) k = x := by
  subst hk
  simp [nk, List.getD_eq_getElem?_getD]
theorem set_last {c : List Nod} {x y : Nod} {k : Nat} (hk : c.length = k) : (c ++ [x]).set k y = c ++ [y] := by
  subst hk
  simp
/-- what is known behind the copy of a node's bytes, the node the last of the row -/
theorem copied_into {t tb : TypeId} {w1 w2 : World} {v2 : Value} {B g cp k : Nat} {c : List Nod} {x : Nod} (hown : OwnNods t w1 B (.slice (some ⟨g, 0, none⟩) (k + 1) cp) (c ++ [x])) (hck : c.length = k) (hd : x.data.length ≤ maxLen)
    (ho : w2.ownsRow w1.heap.size tb 1 v2 (0 + x.data.length) ([] ++ x.data.map byteV)) (hg : (w1.alloc (.cells #[] tb)).grownBy w2 (Value.ownBlock (.slice (some ⟨w1.heap.size, 0, none⟩) 0 0))) :
    ∃ da dc, v2 = .slice da x.data.length dc ∧ Hid (Below w1.heap.size w1 w2 ∧ w2.cell? ⟨g, k * 12 + 11, none⟩ = some (.slice x.da x.data.length x.dcap) ∧ w2.frozen? ⟨g, k * 12 + 11, none⟩ = false ∧
      OwnNods t (w2.setCell ⟨g, k * 12 + 11, none⟩ (.slice da x.data.length dc)) B (.slice (some ⟨g, 0, none⟩) (k + 1) cp) (c ++ [x.at da dc]) ∧ B ≤ g ∧ ∀ a, da = some a → w1.heap.size ≤ a.block) := by
  obtain ⟨da, dc, hv, hsl, hbl⟩ := ownBs_parts (show OwnBs _ _ _ _ x.data from OwnBs.app (l := []) ho) hd
  have hb1 := (Below.refl w1.heap.size w1).alloc (Nat.le_refl _) (.cells #[] tb)
  have hb2 := hb1.grown hg hb1.size (fun k hk => by simp [Value.ownBlock] at hk; omega)
  have e : (c ++ [x]).length = k + 1 := by simp [hck]
  have hO2 := hown.below hb2
  rw [← e] at hO2
  have hk : k < (c ++ [x]).length := by omega
  have hx2 := (hO2.nodIn hk).1
  have hn := hO2.nodAt hk
  rw [nk_last hck] at hx2 hn
  obtain ⟨_, _, _, _, _, _, _, _, _, _, _, h11⟩ := hn
  have hlt := (World.ownsRow.lt hown.1 g rfl)
  have hp := hO2.put (k := k) (j := 11) hk (by omega) (x.at da dc) (.slice da x.data.length dc) (by rw [nk_last hck]; rfl) ⟨Nod.at_ok hx2 hsl, fun a _ ha e => by
    have h1 := hbl a ha
    simp only [Value.ownBlock, Option.some.injEq] at e
    omega⟩
  rw [e, set_last hck] at hp
  exact ⟨da, dc, hv, Lib.hid ⟨hb2, h11, hO2.1.frozenAt _, hp.1, hlt.1, hbl⟩⟩
/-- a new tree, its bytes new, too -/
def RetTG (t : TypeId) (w : World) (l : List Nod) (e : Ending) (w' : World) : Prop := ∃ v l', e = .returned v ∧ OwnNods t w' w.heap.size v l' ∧ l'.map Nod.bare = l.map Nod.bare ∧ Below w.heap.size w w' ∧ ∀ x ∈ l', ∀ a, x.da = some a → w.heap.size ≤ a.block
theorem RetTG.ret {t : TypeId} {w w' : World} {l : List Nod} {e : Ending} (h : RetTG t w l e w') : RetT t w l e w' := by
  obtain ⟨v, l', h1, h2, h3, h4, _⟩ := h
  exact ⟨v, l', h1, h2, h3, h4⟩
end Go.Creel
namespace Go.Proofs.YtaffgndickdbiaaDoor
set_option linter.unusedVariables false
set_option linter.unusedSimpArgs false
open Go.Creel Go.RowKit
set_option maxRecDepth 100000 in
set_option maxHeartbeats 4000000 in
theorem CopyRG_at (b off cap : Nat) (l : List Nod) (w : World) (hpos : 0 < l.length) (hfew : l.length ≤ 8000000000) (hle : l.length ≤ cap) (hm : cap ≤ maxLen) (hc : NodsAt w b off l) (hok : ∀ i, i < l.length → (nk l i).Ok maxLen w) (hdat : ∀ i, i < l.length → (nk l i).data.length ≤ 140737488355328) :
    Calls Tryd.prog 35 #[.slice (some ⟨b, off, none⟩) l.length cap] w (RetTG 60 w l) := by
  obtain ⟨i0, hi, hz0, hz1, hz2⟩ := info_parts info_node
  have HI := Lib.hid (And.intro hi (And.intro hz0 (And.intro hz1 hz2)))
  clear hi hz0 hz1 hz2
  obtain ⟨i1, hi, hz0, hz1, hz2⟩ := info_parts info_byte
  have HJ := Lib.hid (And.intro hi (And.intro hz0 (And.intro hz1 hz2)))
  have HC := Lib.hid hc
  have HK := Lib.hid hok
  have HD := Lib.hid hdat
  unfold maxLen at hm
  clear hc hok hdat hi hz0 hz1 hz2
  go_enter Tryd.func35, Tryd.ntmps35
  go_wp2
  go_loopw [3, 4] (fun v i wr => ∃ (k : Nat) (c : List Nod), k ≤ l.length ∧ i = .int .i64 k ∧ c.length = k ∧ Hid (OwnNods 60 wr w.heap.size v c) ∧ Hid (c.map Nod.bare = (l.take k).map Nod.bare) ∧ Hid (Below w.heap.size w wr) ∧ Hid (∀ x ∈ c, ∀ a, x.da = some a → w.heap.size ≤ a.block)) (fun _ i _ => l.length - (intOf i).toNat)
  case atStart => exact ⟨0, [], by omega, rfl, rfl, Lib.hid (OwnNods.nil _ _ _), Lib.hid rfl, Lib.hid (Below.refl _ _), Lib.hid (fun x hx => absurd hx (by simp))⟩
  case round =>
    obtain ⟨k, c, hk, rfl, hck, HOW, HBR, HB, HFR⟩ := hrel
    by_cases hlt : k < l.length
    · obtain ⟨h0, h1, h2, h3, h4, h5, h6, h7, h8, h9, h10, h11⟩ := (HC.out.below HB.out) k hlt
      have hxl := HD.out k hlt
      have HKX := Lib.hid (HK.out k hlt)
      have HCK := Lib.hid (HC.out k hlt)
      have HBY := Lib.hid (fun (y : Nod) (hy : y.bare = (nk l k).bare) => bare_take HBR.out hlt hy)
      generalize nk l k = x at *
      have HA := Lib.hid (HB.out.alloc HB.out.size (boxOf x))
      have HOA := Lib.hid (HOW.out.below ((Below.refl wr.heap.size wr).alloc (Nat.le_refl _) (boxOf x)))
      have HNX := Lib.hid (nodIn_arg HKX.out HA.out HOW.out)
      go_wp2_with (first
        | (at_builtin; refine wpList_app _ rfl (.tmp 11) (.tmp 16) 22 22 rfl _ _ rfl rfl (fun ty => app_src _ 22 22 ty w.heap.size 60 i0 _ 12 144 Tryd.underlying22 HI.out.1 HI.out.2.1 HI.out.2.2.1 HI.out.2.2.2 rfl (by decide) _ _ c.length 1 _ _ HOA.out.1 (src_nod wr _ _ _ Tryd.underlying22 x) (by unfold maxLen; omega) (by omega) HA.out.size) ?_; intro v1 w1 ho hg hv; have HB1 := Lib.hid (below_app HA.out hg HOA.out.1 HA.out.size); obtain ⟨g, cp, rfl, HP1⟩ := put_new HOA.out HNX.out hck ho hg hv.2; clear ho hg hv; obtain ⟨_, _, _, _, _, _, _, _, _, _, _, d11⟩ := (HCK.out.below HB1.out).below ((Below.refl w1.heap.size w1).alloc (Nat.le_refl _) (.cells #[] 5)))
        | (at_builtin; refine wpList_app _ rfl (.tmp 20) (.tmp 25) 38 38 rfl _ _ rfl rfl (fun ty => app_bytes (l := []) (w1.alloc (.cells #[] 5)) 38 38 5 5 i1 Tryd.underlying38 Tryd.underlying38 HJ.out.1 HJ.out.2.1 HJ.out.2.2.1 HJ.out.2.2.2 (World.ownsRow_made w1 #[] 0 (Nat.le_refl _) (by unfold maxLen; omega) rfl) ((HKX.out.below HB1.out).data.below (fun _ _ h => h) ((Below.refl w1.heap.size w1).alloc (Nat.le_refl _) (.cells #[] 5))) (by simp; omega) ((Below.refl w1.heap.size w1).alloc (Nat.le_refl _) (.cells #[] 5)).size ty) ?_; intro v2 w2 ho hg _; obtain ⟨da, dc, rfl, HP2⟩ := copied_into HP1.out.1 hck (by unfold maxLen; omega) ho hg; have hcc := HP2.out.2.1; have hff := HP2.out.2.2.1; clear ho hg))
      go_roundw
      case rel => exact ⟨k + 1, c ++ [x.at da dc], by omega, by go_num, by simp [hck], Lib.hid HP2.out.2.2.2.1, Lib.hid (HBY.out _ rfl), Lib.hid ((HB1.out.trans (HP2.out.1.mono HB1.out.size)).setCell HP2.out.2.2.2.2.1 _), Lib.hid (fun y hy a ha => by
        rcases List.mem_append.1 hy with h | h
        · exact HFR.out y h a ha
        · rw [List.mem_singleton.1 h] at ha
          exact Nat.le_trans HB1.out.size (HP2.out.2.2.2.2.2 a ha))⟩
      case measure => simp [intOf]; omega
    · obtain rfl : k = l.length := by omega
      rw [List.take_length] at HBR
      go_wp2
      go_ret
      exact ⟨_, c, rfl, HOW.out, HBR.out, HB.out, HFR.out⟩
theorem CopyR_at (b off cap : Nat) (l : List Nod) (w : World) (hpos : 0 < l.length) (hfew : l.length ≤ 8000000000) (hle : l.length ≤ cap) (hm : cap ≤ maxLen) (hc : NodsAt w b off l) (hok : ∀ i, i < l.length → (nk l i).Ok maxLen w) (hdat : ∀ i, i < l.length → (nk l i).data.length ≤ 140737488355328) :
    Calls Tryd.prog 35 #[.slice (some ⟨b, off, none⟩) l.length cap] w (RetT 60 w l) := (CopyRG_at b off cap l w hpos hfew hle hm hc hok hdat).mono fun _ _ h => h.ret
set_option maxRecDepth 100000 in
theorem CopyR_nil (a : Option Addr) (cap : Nat) (w : World) : Calls Tryd.prog 35 #[.slice a 0 cap] w (RetT 60 w []) := by
  go_enter Tryd.func35, Tryd.ntmps35
  go_wp2
  go_loop [3, 4] (fun v i => i = .int .i64 0 ∧ v = .slice none 0 0) (fun _ _ => 0)
  case atStart => exact ⟨rfl, rfl⟩
  case round =>
    obtain ⟨rfl, rfl⟩ := hrel
    go_wp2
    go_ret
    exact ⟨_, [], rfl, OwnNods.nil _ _ _, rfl, Below.refl _ _⟩
theorem CopyR_any (v : Value) (l : List Nod) (w : World) (h : SliceC maxLen 12 (NodC maxLen) w [v] l) (hfew : l.length ≤ 8000000000) (hdat : ∀ i, i < l.length → (nk l i).data.length ≤ 140737488355328) :
    Calls Tryd.prog 35 #[v] w (RetT 60 w l) := by
  rcases nods_cases h with ⟨a, cap, rfl, rfl, _⟩ | ⟨b, off, cap, rfl, h1, h2, h3, h6, h4, h5⟩
  · exact CopyR_nil a cap w
  · exact CopyR_at b off cap l w h1 hfew h2 h3 h4 h5 hdat
theorem CopyRG_any (v : Value) (l : List Nod) (w : World) (h : SliceC maxLen 12 (NodC maxLen) w [v] l) (hpos : 0 < l.length) (hfew : l.length ≤ 8000000000) (hdat : ∀ i, i < l.length → (nk l i).data.length ≤ 140737488355328) :
    Calls Tryd.prog 35 #[v] w (RetTG 60 w l) := by
  rcases nods_cases h with ⟨a, cap, rfl, rfl, _⟩ | ⟨b, off, cap, rfl, h1, h2, h3, h6, h4, h5⟩
  · simp at hpos
  · exact CopyRG_at b off cap l w h1 hfew h2 h3 h4 h5 hdat
end Go.Proofs.YtaffgndickdbiaaDoor
