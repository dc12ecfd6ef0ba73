/-
  tree.Copy, once more: what it answers lies in new blocks.
-/
import Derived.Test.YtecmcgedeaemgaaDoorCopyL
namespace Go.Creel
open Go.RowKit
/-- a new tree, its bytes new, too -/
def RetTF (t : TypeId) (w : World) (l : List Nod) (e : Ending) (w' : World) : Prop := ∃ v l', e = .returned v ∧ OwnNods t w' w.heap.size v l' ∧ l'.map Nod.bare = l.map Nod.bare ∧ Below w.heap.size w w' ∧ ∀ x ∈ l', ∀ a, x.da = some a → w.heap.size ≤ a.block
end Go.Creel
namespace Go.Proofs.YtecmcgedeaemgaaDoor
set_option linter.unusedVariables false
set_option linter.unusedSimpArgs false
open Go.Creel Go.RowKit
set_option maxRecDepth 100000 in
set_option maxHeartbeats 4000000 in
theorem CopyLF_at (b off cap : Nat) (l : List Nod) (w : World) (hpos : 0 < l.length) (hfew : l.length ≤ 8000000000) (hle : l.length ≤ cap) (hm : cap ≤ maxLen) (hc : NodsAt w b off l) (hok : ∀ i, i < l.length → (nk l i).Ok maxLen w) (hdat : ∀ i, i < l.length → (nk l i).data.length ≤ 140737488355328) :
    Calls Tryd.prog 32 #[.slice (some ⟨b, off, none⟩) l.length cap] w (RetTF 48 w l) := by
  obtain ⟨i0, hi, hz0, hz1, hz2⟩ := info_parts info_node
  have HI := Lib.hid (And.intro hi (And.intro hz0 (And.intro hz1 hz2)))
  clear hi hz0 hz1 hz2
  obtain ⟨i1, hi, hz0, hz1, hz2⟩ := info_parts info_byte
  have HJ := Lib.hid (And.intro hi (And.intro hz0 (And.intro hz1 hz2)))
  have HC := Lib.hid hc
  have HK := Lib.hid hok
  have HD := Lib.hid hdat
  unfold maxLen at hm
  clear hc hok hdat hi hz0 hz1 hz2
  go_enter Tryd.func32, Tryd.ntmps32
  go_wp2_with (at_make; refine wpList_make_own _ rfl _ _ 40 rfl w.heap.size 48 i0 _ 12 Tryd.underlying40 HI.out.1 HI.out.2.1 HI.out.2.2.1 .i64 .i64 _ l.length rfl rfl (by first | rfl | omega) (by rw [HI.out.2.2.2]; omega) (by unfold maxLen; omega) (Nat.le_refl _) ?_; intro w5 hown hgr)
  have HOW5 := Lib.hid (show OwnNods 48 w5 w.heap.size (.slice (some ⟨w.heap.size, 0, none⟩) 0 l.length) [] from ⟨hown, fun x hx => absurd hx (by simp)⟩)
  have HB5 := Lib.hid ((Below.refl w.heap.size w).grown hgr (Nat.le_refl _) (fun x hx => by cases hx))
  clear hown hgr
  go_loopw [3, 5, 11] (fun v _ i wr => ∃ (k : Nat) (c : List Nod), k ≤ l.length ∧ i = .int .i64 k ∧ c.length = k ∧ Hid (OwnNods 48 wr w.heap.size v c) ∧ Hid (c.map Nod.bare = (l.take k).map Nod.bare) ∧ Hid (Below w.heap.size w wr) ∧ Hid (∀ x ∈ c, ∀ a, x.da = some a → w.heap.size ≤ a.block)) (fun _ _ i _ => l.length - (intOf i).toNat)
  case atStart => exact ⟨0, [], by omega, rfl, rfl, HOW5, Lib.hid rfl, HB5, Lib.hid (fun x hx => absurd hx (by simp))⟩
  case round =>
    obtain ⟨k, c, hk, rfl, hck, HOW, HBR, HB, HFR⟩ := hrel
    by_cases hlt : k < l.length
    · obtain ⟨h0, h1, h2, h3, h4, h5, h6, h7, h8, h9, h10, h11⟩ := (HC.out.below HB.out) k hlt
      have hxl := HD.out k hlt
      have HOB := Lib.hid HB.out.size
      have HKX := Lib.hid ((HK.out k hlt).below HB.out)
      have HBY := Lib.hid (fun (y : Nod) (hy : y.bare = (nk l k).bare) => bare_take HBR.out hlt hy)
      generalize nk l k = x at *
      have hbx := (Below.refl wr.heap.size wr).alloc (Nat.le_refl _) (boxOf x)
      have HBX := Lib.hid hbx
      have hxd : SliceC maxLen 1 ByteC (wr.alloc (boxOf x)) [.slice x.da x.data.length x.dcap] x.data := HKX.out.data.below (fun _ _ h => h) hbx
      clear hbx
      have happ : ∀ ty, AppTo Tryd.prog (wr.alloc (boxOf x)) 46 46 ty (.slice none 0 0) (.slice x.da x.data.length x.dcap) (wr.alloc (boxOf x)).heap.size 5 1 0 x.data.length [] (x.data.map byteV) := fun ty => app_bytes (l := []) (wr.alloc (boxOf x)) 46 46 5 5 i1 Tryd.underlying46 Tryd.underlying46 HJ.out.1 HJ.out.2.1 HJ.out.2.2.1 HJ.out.2.2.2 (OwnBs.nil _ _ _) hxd (by simp; omega) (Nat.le_refl _) ty
      have HAPP := Lib.hid happ
      clear happ
      have hob := HOB.out
      go_wp2_with (first
        | (at_builtin; refine wpList_app _ rfl (.const (.slice none 0 0)) (.tmp 16) 46 46 rfl _ _ rfl rfl HAPP.out ?_; intro v1 w2 ho hg _; obtain ⟨da, dc, rfl, HP2⟩ := copied_bytes (by unfold maxLen; omega) ho hg; obtain ⟨⟨c0, c1, c2, c3, c4, c5, c6, c7, c8, c9, c10, c11⟩, hfz, _⟩ := HP2.out; simp only [Nat.zero_add] at c1 c2 c3 c4 c5 c6 c7 c8 c9 c10 c11; clear ho hg)
        | (at_builtin; have HO3 := Lib.hid (HOW.out.below (HP2.out.2.2.1.alloc HP2.out.2.2.1.size (boxOf (x.at da dc)))); have HN3 := Lib.hid (copied_in (boxOf (x.at da dc)) HOW.out HKX.out HP2.out.2.2.2.1 HP2.out.2.2.2.2); refine wpList_app _ rfl (.tmp 19) (.tmp 21) 40 40 rfl _ _ rfl rfl (fun ty => app_src _ 40 40 ty w.heap.size 48 i0 _ 12 144 Tryd.underlying40 HI.out.1 HI.out.2.1 HI.out.2.2.1 HI.out.2.2.2 rfl (by decide) _ _ c.length 1 _ _ HO3.out.1 (src_nod_at (w2.setCell ⟨wr.heap.size, 11, none⟩ (.slice da x.data.length dc)) (show w2.heap.size = _ by simp) _ _ _ Tryd.underlying40 (x.at da dc)) (by unfold maxLen; omega) (by omega) (Nat.le_trans HOB.out (HP2.out.2.2.1.alloc HP2.out.2.2.1.size (boxOf (x.at da dc))).size)) ?_; intro v2 w4 ho2 hg2 hv2; have HZ := Lib.hid (And.intro ho2 (And.intro hg2 hv2)); clear ho2 hg2 hv2))
      have HO4 := Lib.hid (HO3.out.app (m := [x.at da dc]) (fun y hy => by rw [List.mem_singleton.1 hy]; exact HN3.out) HZ.out.1 HZ.out.2.1 HZ.out.2.2.2)
      have HB3 := Lib.hid (HB.out.trans ((HP2.out.2.2.1.alloc HP2.out.2.2.1.size (boxOf (x.at da dc))).mono HB.out.size))
      have HB4 := Lib.hid (below_app HB3.out HZ.out.2.1 HO3.out.1 HB3.out.size)
      go_wp2
      go_roundw
      case rel => exact ⟨k + 1, c ++ [x.at da dc], by omega, by go_num, by simp [hck], HO4, Lib.hid (HBY.out _ rfl), HB4, Lib.hid (fun y hy a ha => by
        rcases List.mem_append.1 hy with h | h
        · exact HFR.out y h a ha
        · rw [List.mem_singleton.1 h] at ha
          exact Nat.le_trans HOB.out (HP2.out.2.2.2.2 a ha))⟩
      case measure => simp [intOf]; omega
    · obtain rfl : k = l.length := by omega
      go_wp2
      go_ret
      rw [List.take_length] at HBR
      exact ⟨_, c, rfl, HOW.out, HBR.out, HB.out, HFR.out⟩
set_option maxRecDepth 100000 in
theorem CopyLF_nil (a : Option Addr) (cap : Nat) (w : World) : Calls Tryd.prog 32 #[.slice a 0 cap] w (RetTF 48 w []) := by
  obtain ⟨i0, hi, hz0, hz1, hz2⟩ := info_parts info_node
  have HI := Lib.hid (And.intro hi (And.intro hz0 (And.intro hz1 hz2)))
  clear hi hz0 hz1 hz2
  go_enter Tryd.func32, Tryd.ntmps32
  go_wp2_with (at_make; refine wpList_make_own _ rfl _ _ 40 rfl w.heap.size 48 i0 _ 12 Tryd.underlying40 HI.out.1 HI.out.2.1 HI.out.2.2.1 .i64 .i64 _ 0 rfl rfl rfl (by omega) (by unfold maxLen; omega) (Nat.le_refl _) ?_; intro w5 hown hgr)
  have HOW5 := Lib.hid (show OwnNods 48 w5 w.heap.size (.slice (some ⟨w.heap.size, 0, none⟩) 0 0) [] from ⟨hown, fun x hx => absurd hx (by simp)⟩)
  have HB5 := Lib.hid ((Below.refl w.heap.size w).grown hgr (Nat.le_refl _) (fun x hx => by cases hx))
  clear hown hgr
  go_loop [3, 5, 11] (fun v _ i => i = .int .i64 0 ∧ v = .slice (some ⟨w.heap.size, 0, none⟩) 0 0) (fun _ _ _ => 0)
  case atStart => exact ⟨rfl, rfl⟩
  case round =>
    obtain ⟨rfl, rfl⟩ := hrel
    go_wp2
    go_ret
    exact ⟨_, [], rfl, HOW5.out, rfl, HB5.out, fun x hx => absurd hx (by simp)⟩
theorem CopyLF_any (v : Value) (l : List Nod) (w : World) (h : SliceC maxLen 12 (NodC maxLen) w [v] l) (hfew : l.length ≤ 8000000000) (hdat : ∀ i, i < l.length → (nk l i).data.length ≤ 140737488355328) :
    Calls Tryd.prog 32 #[v] w (RetTF 48 w l) := by
  rcases nods_cases h with ⟨a, cap, rfl, rfl, _⟩ | ⟨b, off, cap, rfl, h1, h2, h3, h6, h4, h5⟩
  · exact CopyLF_nil a cap w
  · exact CopyLF_at b off cap l w h1 hfew h2 h3 h4 h5 hdat
end Go.Proofs.YtecmcgedeaemgaaDoor
