/-
  Texts: Head, RecG.
-/
import Derived.Test.YtaffgndickdbiaaGreatDoorU12
set_option linter.unusedVariables false
set_option linter.unusedSimpArgs false
set_option linter.unusedSectionVars false
namespace Go.Creel
open Go.RowKit
theorem headText_typ {n : HeadN} (h : hasB headTypes n.typ = false) : headText n = (ByteArray.empty, 2) := if_pos h
theorem headText_bad {n : HeadN} (h : hasB headTypes n.typ = true) (hr : ¬ (headRef n).2 = 0) : headText n = (ByteArray.empty, (headRef n).2) := by
  unfold headText
  rw [if_neg (by rw [h]; simp), if_pos hr]
theorem headText_ok {n : HeadN} (h : hasB headTypes n.typ = true) (hr : (headRef n).2 = 0) : headText n = (sumIn (headRef n).1, 0) := by
  unfold headText
  rw [if_neg (by rw [h]; simp), if_neg (by simpa using hr)]
end Go.Creel
namespace Go.Proofs.YtaffgndickdbiaaGreatDoor
open Go.Creel Go.RowKit
theorem one_conv (w : World) (c : UInt8) : (convert 24 9 (.slice (some ⟨w.heap.size, 0, none⟩) 1 1)).run Tryz.prog (w.alloc (.cells #[.int .u8 c.toNat] 5)) = .ok (.string (ofL [c])) (w.alloc (.cells #[.int .u8 c.toNat] 5)) := by
  have h := World.ownsRow_lit (base := w.heap.size) (e := 5) (size := 1) w #[.int .u8 c.toNat] 1 (Nat.le_refl _) (by decide) (by simp)
  exact OwnB.string (l := [c]) (t := 5) (B := w.heap.size) (cap := 1) h _ _ _ Tryz.underlying24 Tryz.underlying5 Tryz.underlying9
set_option maxRecDepth 100000 in
set_option maxHeartbeats 8000000 in
theorem HeadWrite_any (n : HeadN) (w : World) (hok : n.Ok maxLen) :
    Calls Tryz.prog 39 #[HeadN.val' n] w fun e w' => e = .returned (.tuple #[.string (headText n).1, .int .i64 (headText n).2]) ∧ Below w.heap.size w w' := by
  have HOK := Lib.hid hok
  clear hok
  have hix : decide (0 ≤ firstIdx ⟨#[48, 49, 50, 53, 120]⟩ n.typ) = hasB headTypes n.typ := idx_has headTypes n.typ
  have hbx := (Below.refl w.heap.size w).alloc (Nat.le_refl _) (headBox n 62)
  have HBX := Lib.hid hbx
  cases hh : hasB headTypes n.typ with
  | false =>
    have HF := Lib.hid (headText_typ hh)
    have hneg : firstIdx ⟨#[48, 49, 50, 53, 120]⟩ n.typ < 0 := by have := idx_none hh; show firstIdx headTypes n.typ < 0; omega
    clear hh hbx hix
    go_enter Tryz.func39, Tryz.ntmps39
    go_wp2_with (go_at_call 84; refine (IndexByte_any _ _ _).mono ?_; rintro e w' ⟨rfl, rfl⟩)
    go_ret2
    exact ⟨ret_si HF.out, HBX.out⟩
  | true =>
    rw [hh] at hix
    have hnn := of_decide_eq_true hix
    have hneg : ¬ firstIdx ⟨#[48, 49, 50, 53, 120]⟩ n.typ < 0 := by omega
    have HH := Lib.hid hh
    clear hh hix
    have HA0 := Lib.hid ((headAt_box w n 62).below ((Below.refl _ _).alloc (Nat.le_refl _) (.cells #[.pointer none, .slice none 0 0, .int .i64 0] 129)) (by simp))
    have HB0 := Lib.hid (hbx.alloc hbx.size (.cells #[.pointer none, .slice none 0 0, .int .i64 0] 129))
    have hp0 := PenB.new (w.alloc (headBox n 62))
    rw [show (w.alloc (headBox n 62)).heap.size = w.heap.size + 1 by simp] at hp0
    have HP0 := Lib.hid hp0
    have HLT := Lib.hid (Nat.le_succ w.heap.size)
    have HLU := Lib.hid (Nat.lt_succ_self w.heap.size)
    clear hbx hp0
    have i0 : ∀ w, (Instr.index 132 (.agg #[.int .i64 n.mode, .int .i64 n.uid, .int .i64 n.gid]) (.int .i64 0)).run Tryz.prog w = .ok (.int .i64 n.mode) w := fun _ => by kernel_rfl
    have i1 : ∀ w, (Instr.index 132 (.agg #[.int .i64 n.mode, .int .i64 n.uid, .int .i64 n.gid]) (.int .i64 1)).run Tryz.prog w = .ok (.int .i64 n.uid) w := fun _ => by kernel_rfl
    have i2 : ∀ w, (Instr.index 132 (.agg #[.int .i64 n.mode, .int .i64 n.uid, .int .i64 n.gid]) (.int .i64 2)).run Tryz.prog w = .ok (.int .i64 n.gid) w := fun _ => by kernel_rfl
    have i3 : ∀ w, (Instr.index 133 (.agg #[.int .i64 n.size, .int .i64 n.time]) (.int .i64 0)).run Tryz.prog w = .ok (.int .i64 n.size) w := fun _ => by kernel_rfl
    have i4 : ∀ w, (Instr.index 133 (.agg #[.int .i64 n.size, .int .i64 n.time]) (.int .i64 1)).run Tryz.prog w = .ok (.int .i64 n.time) w := fun _ => by kernel_rfl
    have hcv := one_conv
    go_enter Tryz.func39, Tryz.ntmps39
    go_upto_region 4 with (go_at_call 84; refine (IndexByte_any _ _ _).mono ?_; rintro e w' ⟨rfl, rfl⟩)
    generalize World.alloc (World.alloc w _) _ = w0 at *
    simp only [Nat.succ_eq_add_one] at HLT HLU
    generalize w.heap.size + 1 = B at *
    generalize hp : ((ByteArray.empty, 0) : Pen) = p0 at *
    have HPQ0 := Lib.hid hp
    have HS0 := Lib.hid (show p0.1.size ≤ 0 by rw [← hp]; exact Nat.le_refl _)
    clear hp hnn hneg
    clear HBX
    obtain ⟨h0, h1, h2, h3, h4, h5, h6, h7, h8, h9, h10⟩ := HA0.out
    go_wp2_with fail
    refine (FieldWrite_any n.nm 100 true _ HOK.out.nm (by unfold i64; omega)).mono ?_
    rintro e wm ⟨rfl, hb⟩
    have hxs := fieldText_le n.nm 100 true
    generalize hx : fieldText n.nm 100 true = x1 at *
    have HX1 := Lib.hid hx
    clear hx
    have HAm := Lib.hid (HA0.out.below hb HA0.out.lt)
    have HPm := Lib.hid (HP0.out.below hb)
    have HBm := Lib.hid (HB0.out.trans (hb.mono HB0.out.size))
    clear hb
    clear h0 h1 h2 h3 h4 h5 h6 h7 h8 h9 h10
    go_wp2_with fail
    refine (Put_any B B p0 x1.1 x1.2 _ HPm.out (by have := HS0.out; omega) (Nat.le_of_lt HPm.out.lt)).mono ?_
    rintro e w1 ⟨rfl, hq, hb⟩
    have HB1 := Lib.hid (HBm.out.trans (hb.mono HLT.out))
    have HA1 := Lib.hid (HAm.out.below hb HLU.out)
    have HS1 := Lib.hid (show (penPut p0 (x1.1, x1.2)).1.size ≤ 512 from penPut_le HS0.out hxs)
    have HP1 := Lib.hid hq
    clear hq hb hxs HAm HPm HBm
    generalize hp : penPut p0 (x1.1, x1.2) = p1 at *
    have HPQ1 := Lib.hid hp
    clear hp
    obtain ⟨h0, h1, h2, h3, h4, h5, h6, h7, h8, h9, h10⟩ := HA1.out
    go_wp2
    clear h0 h1 h2 h3 h4 h5 h6 h7 h8 h9 h10
    refine wp_loop_rounds 4 ?_
    rw [rounds_succ]
    go_wp2_with fail
    refine (OctWrite_any n.mode 8 _).mono ?_
    rintro e wm ⟨rfl, hb⟩
    have hxs := octText_le n.mode 8
    generalize hx : octText n.mode 8 = x2 at *
    have HX2 := Lib.hid hx
    clear hx
    have HAm := Lib.hid (HA1.out.below hb HA1.out.lt)
    have HPm := Lib.hid (HP1.out.below hb)
    have HBm := Lib.hid (HB1.out.trans (hb.mono HB1.out.size))
    clear hb
    go_wp2_with fail
    refine (Put_any B B p1 x2.1 x2.2 _ HPm.out (by have := HS1.out; omega) (Nat.le_of_lt HPm.out.lt)).mono ?_
    rintro e w2 ⟨rfl, hq, hb⟩
    have HB2 := Lib.hid (HBm.out.trans (hb.mono HLT.out))
    have HA2 := Lib.hid (HAm.out.below hb HLU.out)
    have HS2 := Lib.hid (show (penPut p1 (x2.1, x2.2)).1.size ≤ 1024 from penPut_le HS1.out hxs)
    have HP2 := Lib.hid hq
    clear hq hb hxs HAm HPm HBm
    generalize hp : penPut p1 (x2.1, x2.2) = p2 at *
    have HPQ2 := Lib.hid hp
    clear hp
    go_wp2
    rw [rounds_succ]
    go_wp2_with fail
    refine (OctWrite_any n.uid 8 _).mono ?_
    rintro e wm ⟨rfl, hb⟩
    have hxs := octText_le n.uid 8
    generalize hx : octText n.uid 8 = x3 at *
    have HX3 := Lib.hid hx
    clear hx
    have HAm := Lib.hid (HA2.out.below hb HA2.out.lt)
    have HPm := Lib.hid (HP2.out.below hb)
    have HBm := Lib.hid (HB2.out.trans (hb.mono HB2.out.size))
    clear hb
    go_wp2_with fail
    refine (Put_any B B p2 x3.1 x3.2 _ HPm.out (by have := HS2.out; omega) (Nat.le_of_lt HPm.out.lt)).mono ?_
    rintro e w3 ⟨rfl, hq, hb⟩
    have HB3 := Lib.hid (HBm.out.trans (hb.mono HLT.out))
    have HA3 := Lib.hid (HAm.out.below hb HLU.out)
    have HS3 := Lib.hid (show (penPut p2 (x3.1, x3.2)).1.size ≤ 1536 from penPut_le HS2.out hxs)
    have HP3 := Lib.hid hq
    clear hq hb hxs HAm HPm HBm
    generalize hp : penPut p2 (x3.1, x3.2) = p3 at *
    have HPQ3 := Lib.hid hp
    clear hp
    go_wp2
    rw [rounds_succ]
    go_wp2_with fail
    refine (OctWrite_any n.gid 8 _).mono ?_
    rintro e wm ⟨rfl, hb⟩
    have hxs := octText_le n.gid 8
    generalize hx : octText n.gid 8 = x4 at *
    have HX4 := Lib.hid hx
    clear hx
    have HAm := Lib.hid (HA3.out.below hb HA3.out.lt)
    have HPm := Lib.hid (HP3.out.below hb)
    have HBm := Lib.hid (HB3.out.trans (hb.mono HB3.out.size))
    clear hb
    go_wp2_with fail
    refine (Put_any B B p3 x4.1 x4.2 _ HPm.out (by have := HS3.out; omega) (Nat.le_of_lt HPm.out.lt)).mono ?_
    rintro e w4 ⟨rfl, hq, hb⟩
    have HB4 := Lib.hid (HBm.out.trans (hb.mono HLT.out))
    have HA4 := Lib.hid (HAm.out.below hb HLU.out)
    have HS4 := Lib.hid (show (penPut p3 (x4.1, x4.2)).1.size ≤ 2048 from penPut_le HS3.out hxs)
    have HP4 := Lib.hid hq
    clear hq hb hxs HAm HPm HBm
    generalize hp : penPut p3 (x4.1, x4.2) = p4 at *
    have HPQ4 := Lib.hid hp
    clear hp
    go_wp2
    rw [rounds_succ]
    obtain ⟨h0, h1, h2, h3, h4, h5, h6, h7, h8, h9, h10⟩ := HA4.out
    go_wp2
    clear h0 h1 h2 h3 h4 h5 h6 h7 h8 h9 h10
    refine wp_loop_rounds 3 ?_
    rw [rounds_succ]
    go_wp2_with fail
    refine (OctWrite_any n.size 12 _).mono ?_
    rintro e wm ⟨rfl, hb⟩
    have hxs := octText_le n.size 12
    generalize hx : octText n.size 12 = x5 at *
    have HX5 := Lib.hid hx
    clear hx
    have HAm := Lib.hid (HA4.out.below hb HA4.out.lt)
    have HPm := Lib.hid (HP4.out.below hb)
    have HBm := Lib.hid (HB4.out.trans (hb.mono HB4.out.size))
    clear hb
    go_wp2_with fail
    refine (Put_any B B p4 x5.1 x5.2 _ HPm.out (by have := HS4.out; omega) (Nat.le_of_lt HPm.out.lt)).mono ?_
    rintro e w5 ⟨rfl, hq, hb⟩
    have HB5 := Lib.hid (HBm.out.trans (hb.mono HLT.out))
    have HA5 := Lib.hid (HAm.out.below hb HLU.out)
    have HS5 := Lib.hid (show (penPut p4 (x5.1, x5.2)).1.size ≤ 2560 from penPut_le HS4.out hxs)
    have HP5 := Lib.hid hq
    clear hq hb hxs HAm HPm HBm
    generalize hp : penPut p4 (x5.1, x5.2) = p5 at *
    have HPQ5 := Lib.hid hp
    clear hp
    go_wp2
    rw [rounds_succ]
    go_wp2_with fail
    refine (OctWrite_any n.time 12 _).mono ?_
    rintro e wm ⟨rfl, hb⟩
    have hxs := octText_le n.time 12
    generalize hx : octText n.time 12 = x6 at *
    have HX6 := Lib.hid hx
    clear hx
    have HAm := Lib.hid (HA5.out.below hb HA5.out.lt)
    have HPm := Lib.hid (HP5.out.below hb)
    have HBm := Lib.hid (HB5.out.trans (hb.mono HB5.out.size))
    clear hb
    go_wp2_with fail
    refine (Put_any B B p5 x6.1 x6.2 _ HPm.out (by have := HS5.out; omega) (Nat.le_of_lt HPm.out.lt)).mono ?_
    rintro e w6 ⟨rfl, hq, hb⟩
    have HB6 := Lib.hid (HBm.out.trans (hb.mono HLT.out))
    have HA6 := Lib.hid (HAm.out.below hb HLU.out)
    have HS6 := Lib.hid (show (penPut p5 (x6.1, x6.2)).1.size ≤ 3072 from penPut_le HS5.out hxs)
    have HP6 := Lib.hid hq
    clear hq hb hxs HAm HPm HBm
    generalize hp : penPut p5 (x6.1, x6.2) = p6 at *
    have HPQ6 := Lib.hid hp
    clear hp
    go_wp2
    rw [rounds_succ]
    obtain ⟨h0, h1, h2, h3, h4, h5, h6, h7, h8, h9, h10⟩ := HA6.out
    have hb := (Below.refl w6.heap.size w6).alloc (Nat.le_refl _) (.cells #[.int .u8 n.typ.toNat] 5)
    have HAm := Lib.hid (HA6.out.below hb HA6.out.lt)
    have HPm := Lib.hid (HP6.out.below hb)
    have HBm := Lib.hid (HB6.out.trans (hb.mono HB6.out.size))
    clear hb
    have hxs : ((⟨#[32, 32, 32, 32, 32, 32, 32, 32]⟩ : ByteArray) ++ ofL [n.typ]).size ≤ 512 := by rw [ByteArray.size_append, ofL_size]; exact (by decide : 8 + 1 ≤ 512)
    have hz1 : (ofL [n.typ]).size = 1 := ofL_size _
    go_wp2_with fail
    clear h0 h1 h2 h3 h4 h5 h6 h7 h8 h9 h10
    refine (Put_any B B p6 ((⟨#[32, 32, 32, 32, 32, 32, 32, 32]⟩ : ByteArray) ++ ofL [n.typ]) 0 _ HPm.out (by have := HS6.out; omega) (Nat.le_of_lt HPm.out.lt)).mono ?_
    rintro e w7 ⟨rfl, hq, hb⟩
    have HB7 := Lib.hid (HBm.out.trans (hb.mono HLT.out))
    have HA7 := Lib.hid (HAm.out.below hb HLU.out)
    have HS7 := Lib.hid (show (penPut p6 (((⟨#[32, 32, 32, 32, 32, 32, 32, 32]⟩ : ByteArray) ++ ofL [n.typ]), 0)).1.size ≤ 3584 from penPut_le HS6.out hxs)
    have HP7 := Lib.hid hq
    clear hq hb hxs HAm HPm HBm
    generalize hp : penPut p6 (((⟨#[32, 32, 32, 32, 32, 32, 32, 32]⟩ : ByteArray) ++ ofL [n.typ]), 0) = p7 at *
    have HPQ7 := Lib.hid hp
    clear hp
    obtain ⟨h0, h1, h2, h3, h4, h5, h6, h7, h8, h9, h10⟩ := HA7.out
    go_wp2_with fail
    refine (FieldWrite_any n.lk 100 true _ HOK.out.lk (by unfold i64; omega)).mono ?_
    rintro e wm ⟨rfl, hb⟩
    have hxs := fieldText_le n.lk 100 true
    generalize hx : fieldText n.lk 100 true = x8 at *
    have HX8 := Lib.hid hx
    clear hx
    have HAm := Lib.hid (HA7.out.below hb HA7.out.lt)
    have HPm := Lib.hid (HP7.out.below hb)
    have HBm := Lib.hid (HB7.out.trans (hb.mono HB7.out.size))
    clear hb
    clear h0 h1 h2 h3 h4 h5 h6 h7 h8 h9 h10
    go_wp2_with fail
    refine (Put_any B B p7 x8.1 x8.2 _ HPm.out (by have := HS7.out; omega) (Nat.le_of_lt HPm.out.lt)).mono ?_
    rintro e w8 ⟨rfl, hq, hb⟩
    have HB8 := Lib.hid (HBm.out.trans (hb.mono HLT.out))
    have HA8 := Lib.hid (HAm.out.below hb HLU.out)
    have HS8 := Lib.hid (show (penPut p7 (x8.1, x8.2)).1.size ≤ 4096 from penPut_le HS7.out hxs)
    have HP8 := Lib.hid hq
    clear hq hb hxs HAm HPm HBm
    generalize hp : penPut p7 (x8.1, x8.2) = p8 at *
    have HPQ8 := Lib.hid hp
    clear hp
    have HAm := HA8
    have HPm := HP8
    have HBm := HB8
    have hxs : ((⟨#[117, 115, 116, 97, 114, 0, 48, 48]⟩ : ByteArray)).size ≤ 512 := by decide
    go_wp2_with fail
    refine (Put_any B B p8 (⟨#[117, 115, 116, 97, 114, 0, 48, 48]⟩ : ByteArray) 0 _ HPm.out (by have := HS8.out; omega) (Nat.le_of_lt HPm.out.lt)).mono ?_
    rintro e w9 ⟨rfl, hq, hb⟩
    have HB9 := Lib.hid (HBm.out.trans (hb.mono HLT.out))
    have HA9 := Lib.hid (HAm.out.below hb HLU.out)
    have HS9 := Lib.hid (show (penPut p8 ((⟨#[117, 115, 116, 97, 114, 0, 48, 48]⟩ : ByteArray), 0)).1.size ≤ 4608 from penPut_le HS8.out hxs)
    have HP9 := Lib.hid hq
    clear hq hb hxs HAm HPm HBm
    generalize hp : penPut p8 ((⟨#[117, 115, 116, 97, 114, 0, 48, 48]⟩ : ByteArray), 0) = p9 at *
    have HPQ9 := Lib.hid hp
    clear hp
    obtain ⟨h0, h1, h2, h3, h4, h5, h6, h7, h8, h9, h10⟩ := HA9.out
    go_wp2_with fail
    refine (FieldWrite_any n.user 32 false _ HOK.out.user (by unfold i64; omega)).mono ?_
    rintro e wm ⟨rfl, hb⟩
    have hxs := fieldText_le n.user 32 false
    generalize hx : fieldText n.user 32 false = x10 at *
    have HX10 := Lib.hid hx
    clear hx
    have HAm := Lib.hid (HA9.out.below hb HA9.out.lt)
    have HPm := Lib.hid (HP9.out.below hb)
    have HBm := Lib.hid (HB9.out.trans (hb.mono HB9.out.size))
    clear hb
    clear h0 h1 h2 h3 h4 h5 h6 h7 h8 h9 h10
    go_wp2_with fail
    refine (Put_any B B p9 x10.1 x10.2 _ HPm.out (by have := HS9.out; omega) (Nat.le_of_lt HPm.out.lt)).mono ?_
    rintro e w10 ⟨rfl, hq, hb⟩
    have HB10 := Lib.hid (HBm.out.trans (hb.mono HLT.out))
    have HA10 := Lib.hid (HAm.out.below hb HLU.out)
    have HS10 := Lib.hid (show (penPut p9 (x10.1, x10.2)).1.size ≤ 5120 from penPut_le HS9.out hxs)
    have HP10 := Lib.hid hq
    clear hq hb hxs HAm HPm HBm
    generalize hp : penPut p9 (x10.1, x10.2) = p10 at *
    have HPQ10 := Lib.hid hp
    clear hp
    obtain ⟨h0, h1, h2, h3, h4, h5, h6, h7, h8, h9, h10⟩ := HA10.out
    go_wp2_with fail
    refine (FieldWrite_any n.group 32 false _ HOK.out.group (by unfold i64; omega)).mono ?_
    rintro e wm ⟨rfl, hb⟩
    have hxs := fieldText_le n.group 32 false
    generalize hx : fieldText n.group 32 false = x11 at *
    have HX11 := Lib.hid hx
    clear hx
    have HAm := Lib.hid (HA10.out.below hb HA10.out.lt)
    have HPm := Lib.hid (HP10.out.below hb)
    have HBm := Lib.hid (HB10.out.trans (hb.mono HB10.out.size))
    clear hb
    clear h0 h1 h2 h3 h4 h5 h6 h7 h8 h9 h10
    go_wp2_with fail
    refine (Put_any B B p10 x11.1 x11.2 _ HPm.out (by have := HS10.out; omega) (Nat.le_of_lt HPm.out.lt)).mono ?_
    rintro e w11 ⟨rfl, hq, hb⟩
    have HB11 := Lib.hid (HBm.out.trans (hb.mono HLT.out))
    have HA11 := Lib.hid (HAm.out.below hb HLU.out)
    have HS11 := Lib.hid (show (penPut p10 (x11.1, x11.2)).1.size ≤ 5632 from penPut_le HS10.out hxs)
    have HP11 := Lib.hid hq
    clear hq hb hxs HAm HPm HBm
    generalize hp : penPut p10 (x11.1, x11.2) = p11 at *
    have HPQ11 := Lib.hid hp
    clear hp
    have HAm := HA11
    have HPm := HP11
    have HBm := HB11
    have hxs : ((⟨#[48, 48, 48, 48, 48, 48, 48, 0, 48, 48, 48, 48, 48, 48, 48, 0]⟩ : ByteArray)).size ≤ 512 := by decide
    go_wp2_with fail
    refine (Put_any B B p11 (⟨#[48, 48, 48, 48, 48, 48, 48, 0, 48, 48, 48, 48, 48, 48, 48, 0]⟩ : ByteArray) 0 _ HPm.out (by have := HS11.out; omega) (Nat.le_of_lt HPm.out.lt)).mono ?_
    rintro e w12 ⟨rfl, hq, hb⟩
    have HB12 := Lib.hid (HBm.out.trans (hb.mono HLT.out))
    have HA12 := Lib.hid (HAm.out.below hb HLU.out)
    have HS12 := Lib.hid (show (penPut p11 ((⟨#[48, 48, 48, 48, 48, 48, 48, 0, 48, 48, 48, 48, 48, 48, 48, 0]⟩ : ByteArray), 0)).1.size ≤ 6144 from penPut_le HS11.out hxs)
    have HP12 := Lib.hid hq
    clear hq hb hxs HAm HPm HBm
    generalize hp : penPut p11 ((⟨#[48, 48, 48, 48, 48, 48, 48, 0, 48, 48, 48, 48, 48, 48, 48, 0]⟩ : ByteArray), 0) = p12 at *
    have HPQ12 := Lib.hid hp
    clear hp
    obtain ⟨h0, h1, h2, h3, h4, h5, h6, h7, h8, h9, h10⟩ := HA12.out
    go_wp2_with fail
    refine (FieldWrite_any n.px 155 true _ HOK.out.px (by unfold i64; omega)).mono ?_
    rintro e wm ⟨rfl, hb⟩
    have hxs := fieldText_le n.px 155 true
    generalize hx : fieldText n.px 155 true = x13 at *
    have HX13 := Lib.hid hx
    clear hx
    have HAm := Lib.hid (HA12.out.below hb HA12.out.lt)
    have HPm := Lib.hid (HP12.out.below hb)
    have HBm := Lib.hid (HB12.out.trans (hb.mono HB12.out.size))
    clear hb
    clear h0 h1 h2 h3 h4 h5 h6 h7 h8 h9 h10
    go_wp2_with fail
    refine (Put_any B B p12 x13.1 x13.2 _ HPm.out (by have := HS12.out; omega) (Nat.le_of_lt HPm.out.lt)).mono ?_
    rintro e w13 ⟨rfl, hq, hb⟩
    have HB13 := Lib.hid (HBm.out.trans (hb.mono HLT.out))
    have HA13 := Lib.hid (HAm.out.below hb HLU.out)
    have HS13 := Lib.hid (show (penPut p12 (x13.1, x13.2)).1.size ≤ 6656 from penPut_le HS12.out hxs)
    have HP13 := Lib.hid hq
    clear hq hb hxs HAm HPm HBm
    generalize hp : penPut p12 (x13.1, x13.2) = p13 at *
    have HPQ13 := Lib.hid hp
    clear hp
    go_wp2_with fail
    refine (Repeat0_any 12 _ (by omega) (by omega)).mono ?_
    rintro e wm ⟨rfl, hb⟩
    have hxs : (zerosS (12 : Int).toNat).size ≤ 512 := by rw [zerosS_size]; decide
    generalize hx : zerosS (12 : Int).toNat = x14 at *
    have HX14 := Lib.hid hx
    clear hx
    have HAm := Lib.hid (HA13.out.below hb HA13.out.lt)
    have HPm := Lib.hid (HP13.out.below hb)
    have HBm := Lib.hid (HB13.out.trans (hb.mono HB13.out.size))
    clear hb
    go_wp2_with fail
    refine (Put_any B B p13 x14 0 _ HPm.out (by have := HS13.out; omega) (Nat.le_of_lt HPm.out.lt)).mono ?_
    rintro e w14 ⟨rfl, hq, hb⟩
    have HB14 := Lib.hid (HBm.out.trans (hb.mono HLT.out))
    have HA14 := Lib.hid (HAm.out.below hb HLU.out)
    have HS14 := Lib.hid (show (penPut p13 (x14, 0)).1.size ≤ 7168 from penPut_le HS13.out hxs)
    have HP14 := Lib.hid hq
    clear hq hb hxs HAm HPm HBm
    generalize hp : penPut p13 (x14, 0) = p14 at *
    have HPQ14 := Lib.hid hp
    clear hp
    have HPEN := Lib.hid (show headPen n = p14 by
      unfold headPen penAll pNum pRest pEnd
      simp only [List.foldl_append, List.foldl_cons, List.foldl_nil]
      rw [HX1.out, HX2.out, HX3.out, HX4.out, HX5.out, HX6.out, HX8.out, HX10.out, HX11.out, HX13.out, HPQ0.out]
      rw [show penPut p0 x1 = p1 from HPQ1.out, show penPut p1 x2 = p2 from HPQ2.out, show penPut p2 x3 = p3 from HPQ3.out, show penPut p3 x4 = p4 from HPQ4.out, show penPut p4 x5 = p5 from HPQ5.out, show penPut p5 x6 = p6 from HPQ6.out, show penPut p6 (ofL (eightB ++ [n.typ]), 0) = p7 from by rw [← ofL_append]; exact HPQ7.out, show penPut p7 x8 = p8 from HPQ8.out, show penPut p8 (ofL ustarB, 0) = p9 from HPQ9.out, show penPut p9 x10 = p10 from HPQ10.out, show penPut p10 x11 = p11 from HPQ11.out, show penPut p11 (ofL (zero8B ++ zero8B), 0) = p12 from HPQ12.out, show penPut p12 x13 = p13 from HPQ13.out, show penPut p13 (zerosS 12, 0) = p14 from by rw [show zerosS 12 = x14 from HX14.out]; exact HPQ14.out])
    have hlike := head_like n
    rw [HPEN.out] at hlike
    have HL2 := Lib.hid hlike.2
    have hl1 := hlike.1
    have HL1 := Lib.hid hl1
    obtain ⟨c2, _, _⟩ := HP14.out.err
    clear hlike hl1
    by_cases hz : p14.2 = 0
    · have HR0 := Lib.hid (HL1.out.symm.trans hz)
      have HF := Lib.hid (headText_ok HH.out HR0.out)
      have hsz : p14.1.size = 512 := by rw [HL2.out hz]; exact head_size n HR0.out
      rw [← HL2.out hz] at HF
      have HST := Lib.hid (PenString_any B B p14 w14 HP14.out (by omega) (by omega))
      rw [hz] at c2
      clear hz
      generalize p14.1 = s at *
      have hbd := headSum_bd hsz
      go_wp2_with fail
      refine HST.out.mono ?_
      rintro e w15 ⟨rfl, hb⟩
      have HB15 := Lib.hid (HB14.out.trans (hb.mono HLT.out))
      clear hb
      go_wp2_with fail
      refine (Sum_any s _ (by unfold maxLen; omega)).mono ?_
      rintro e w16 ⟨rfl, rfl⟩
      go_wp2_with fail
      refine (OctWrite_any (headSum s).1 7 _).mono ?_
      rintro e w17 ⟨rfl, hb⟩
      have HB17 := Lib.hid (HB15.out.trans (hb.mono HB15.out.size))
      have ho := octText_le (headSum s).1 7
      have HF2 := Lib.hid (show headText n = (s.extract 0 148 ++ (octText (headSum s).1 7).1 ++ (⟨#[32]⟩ : ByteArray) ++ s.extract 156 512, 0) from by have := HF.out; unfold sumIn at this; rw [hsz] at this; exact this)
      clear hb HF
      generalize octText (headSum s).1 7 = y at *
      go_wp2_with fail
      go_quiet (fail)
      go_wp2
      go_ret2
      exact ⟨ret_si HF2.out, below_drawN HB17.out⟩
    · have HF := Lib.hid (headText_bad HH.out (by rw [← HL1.out]; exact hz))
      rw [← HL1.out] at HF
      have hne : (p14.2 != 0) = true := by rw [bne_iff_ne]; exact hz
      clear hz
      generalize p14.2 = q at *
      go_wp2_with fail
      go_quiet (fail)
      go_wp2
      go_ret2
      exact ⟨ret_si HF.out, below_drawN HB14.out⟩
end Go.Proofs.YtaffgndickdbiaaGreatDoor
namespace Go.Creel
open Go.RowKit
theorem grown_by_below {w w' : World} {row : Option Nat} (hb : Below w.heap.size w w') : w.grownBy w' row := ⟨hb.os, hb.tape, hb.output, hb.size, fun k hk _ => hb.block k hk⟩
theorem grown_then {w w1 w2 : World} {row : Option Nat} (h1 : w.grownBy w1 row) (h2 : w1.grownBy w2 row) : w.grownBy w2 row := by
  obtain ⟨a1, a2, a3, a4, a5⟩ := h1
  obtain ⟨b1, b2, b3, b4, b5⟩ := h2
  exact ⟨b1.trans a1, b2.trans a2, b3.trans a3, Nat.le_trans a4 b4, fun k hk hne => (b5 k (Nat.lt_of_lt_of_le hk a4) hne).trans (a5 k hk hne)⟩
structure RecG (tR tP : TypeId) (w0 w : World) (b : Nat) (cs : Array Value) (v : Value) (l : List Rec) : Prop where
  row : w.heap[b]? = some (.cells cs tP (0, 0))
  own : OwnRecs tR w w0.heap.size v l
  low : b < w0.heap.size
  gr : w0.grownBy w (some b)
section
variable {tR tP : TypeId} {w0 w w' w4 : World} {b : Nat} {cs : Array Value} {v v4 : Value} {l : List Rec}
theorem RecG.lt (h : RecG tR tP w0 w b cs v l) : b < w.heap.size := (Array.getElem?_eq_some_iff.1 h.row).1
theorem RecG.size (h : RecG tR tP w0 w b cs v l) : w0.heap.size ≤ w.heap.size := by obtain ⟨_, _, _, a4, _⟩ := h.gr; exact a4
theorem RecG.below (h : RecG tR tP w0 w b cs v l) (hb : Below w.heap.size w w') : RecG tR tP w0 w' b cs v l :=
  ⟨(hb.block b h.lt).trans h.row, h.own.below hb, h.low, grown_then h.gr (grown_by_below hb)⟩
theorem RecG.cell (h : RecG tR tP w0 w b cs v l) (j : Nat) : w.cell? ⟨b, j, none⟩ = cs[j]? := cell_of_row w b j cs tP (0, 0) h.row
theorem RecG.ne (h : RecG tR tP w0 w b cs v l) : v.ownBlock ≠ some b := fun e => by have := (World.ownsRow.lt h.own b e).1; have := h.low; omega
theorem RecG.row4 (h : RecG tR tP w0 w b cs v l) (hg : w.grownBy w4 v.ownBlock) : w4.heap[b]? = some (.cells cs tP (0, 0)) :=
  (by obtain ⟨a1, a2, a3, a4, a5⟩ := hg; exact (a5 b h.lt (fun e => h.ne e.symm)).trans h.row)
theorem RecG.cell4 (h : RecG tR tP w0 w b cs v l) (hg : w.grownBy w4 v.ownBlock) (j : Nat) : w4.cell? ⟨b, j, none⟩ = cs[j]? := cell_of_row w4 b j cs tP (0, 0) (h.row4 hg)
theorem RecG.free4 (h : RecG tR tP w0 w b cs v l) (hg : w.grownBy w4 v.ownBlock) (j : Nat) : w4.frozen? ⟨b, j, none⟩ = false := frozen_of_row w4 b j cs tP (h.row4 hg)
theorem RecG.other (h : RecG tR tP w0 w b cs v l) {k o : Nat} {u : Value} (hc : w0.cell? ⟨k, o, none⟩ = some u) (hne : k ≠ b) : w.cell? ⟨k, o, none⟩ = some u := by
  have hk := World.block_lt_of_cell? w0 _ hc
  obtain ⟨_, _, _, _, a5⟩ := h.gr
  have e := a5 k hk (fun e => hne (Option.some.inj e))
  unfold World.cell? at hc ⊢
  simp only at hc ⊢
  rw [e]; exact hc
theorem RecG.say (h : RecG tR tP w0 w b cs v l) (j : Nat) {r : Rec} (ho : w4.ownsRow w0.heap.size tR 2 v4 (l.length + 1) (l.flatMap Rec.cl ++ [r].flatMap Rec.cl)) (hg : w.grownBy w4 v.ownBlock) {cs' : Array Value} (e : cs.setIfInBounds j v4 = cs') :
    RecG tR tP w0 (w4.setCell ⟨b, j, none⟩ v4) b cs' v4 (l ++ [r]) := by
  subst e
  have own4 : OwnRecs tR w4 w0.heap.size v4 (l ++ [r]) := OwnRecs.app (m := [r]) ho
  have hne4 : v4.ownBlock ≠ some b := fun e => by have := (World.ownsRow.lt own4 b e).1; have := h.low; omega
  refine ⟨heap_setCell_same w4 b j _ tP _ (h.row4 hg), ownsRow_elsewhere _ own4 hne4, h.low, ?_⟩
  obtain ⟨a1, a2, a3, a4, a5⟩ := h.gr
  obtain ⟨b1, b2, b3, b4, b5⟩ := hg
  refine ⟨b1.trans a1, b2.trans a2, b3.trans a3, by simp only [World.setCell, Array.size_modify]; omega, fun k hk hne => ?_⟩
  rw [heap_setCell_other w4 ⟨b, j, none⟩ k v4 (fun e => hne (by rw [e]))]
  refine (b5 k (by omega) (fun e => ?_)).trans (a5 k hk hne)
  have := (World.ownsRow.lt h.own k e.symm).1
  omega
theorem RecG.bel {wb : World} (h : RecG tR tP w0 w b cs v l) (hb : Below wb.heap.size wb w0) (hl : wb.heap.size ≤ b) : Below wb.heap.size wb w :=
  hb.grown h.gr hb.size (fun k hk => by cases hk; exact hl)
end
theorem OwnRecs.mono {t : TypeId} {w : World} {B B' : Nat} {v : Value} {l : List Rec} (h : OwnRecs t w B v l) (hb : B' ≤ B) : OwnRecs t w B' v l := by
  rcases h.2 with ⟨rfl, h0⟩ | ⟨g, cap, cur, rfl, hbg, hg, hnc, hcm, hcs, htake⟩
  · exact ⟨h.1, .inl ⟨rfl, h0⟩⟩
  · exact ⟨h.1, .inr ⟨g, cap, cur, rfl, Nat.le_trans hb hbg, hg, hnc, hcm, hcs, htake⟩⟩
end Go.Creel
