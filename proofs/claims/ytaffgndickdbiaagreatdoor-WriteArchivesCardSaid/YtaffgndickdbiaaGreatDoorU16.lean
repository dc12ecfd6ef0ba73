/-
  Texts: HeadR, MemB, MaxOk, Laid.
-/
import Derived.Test.YtaffgndickdbiaaGreatDoorU15
import Derived.Shaped
import Derived.Test.YtaffgndickdbiaaGreatDoorRows
import Derived.Deep.DeepHandedRow
set_option linter.unusedVariables false
set_option linter.unusedSimpArgs false
set_option linter.unusedSectionVars false
namespace Go.Proofs.YtaffgndickdbiaaGreatDoor
open Go.Creel Go.RowKit
set_option maxRecDepth 100000 in
set_option maxHeartbeats 8000000 in
theorem HeadText_any (n : HeadN) (w : World) (hok : n.Ok maxLen) :
    Calls Tryz.prog 43 #[HeadN.val' n] w fun e w' => e = .returned (.tuple #[.string (headText n).1, .int .i64 (headText n).2]) ∧ Below w.heap.size w w' := by
  have HOK := Lib.hid hok
  clear hok
  have hbx := (Below.refl w.heap.size w).alloc (Nat.le_refl _) (headBox n 62)
  have HBX := Lib.hid hbx
  have hts : headTypes.size ≤ maxLen := by decide
  cases hh : hasB headTypes n.typ with
  | false =>
    have HF := Lib.hid (headText_typ hh)
    have HHS := Lib.hid (fun w => has_any headTypes n.typ n.typ.toNat rfl w hts)
    rw [hh] at HHS
    clear hh hbx hts
    go_enter Tryz.func43, Tryz.ntmps43
    go_wp2_with (go_at_call 105; refine (HHS.out _).mono ?_; rintro e w' ⟨rfl, rfl⟩)
    go_ret2
    exact ⟨ret_si HF.out, HBX.out⟩
  | true =>
    have HHS := Lib.hid (fun w => has_any headTypes n.typ n.typ.toNat rfl w hts)
    rw [hh] at HHS
    have HH := Lib.hid hh
    clear hh hts
    have hA1 := (headAt_box w n 62).below ((Below.refl _ _).alloc (Nat.le_refl _) (.cells #[.int .i64 0] 27)) (by simp)
    have HA0 := Lib.hid (hA1.below ((Below.refl _ _).alloc (Nat.le_refl _) (.cells #[.string ⟨#[]⟩] 9)) (by simp; omega))
    have hB1 := hbx.alloc hbx.size (.cells #[.int .i64 0] 27)
    have HB0 := Lib.hid (hB1.alloc hB1.size (.cells #[.string ⟨#[]⟩] 9))
    have hr0 := refB_new (w.alloc (headBox n 62)) 27 9
    rw [show (w.alloc (headBox n 62)).heap.size = w.heap.size + 1 by simp] at hr0
    have HP0 := Lib.hid hr0
    have HLT := Lib.hid (show w.heap.size ≤ w.heap.size + 1 from Nat.le_succ _)
    have HLU := Lib.hid (show w.heap.size < w.heap.size + 1 from Nat.lt_succ_self _)
    have HNE := Lib.hid (show w.heap.size + 1 ≠ w.heap.size + 1 + 1 by omega)
    have HBW := Lib.hid (show w.heap.size + 1 ≤ w.heap.size + 1 from Nat.le_refl _)
    have HBS := Lib.hid (show w.heap.size + 1 ≤ w.heap.size + 1 + 1 from Nat.le_succ _)
    clear hbx hA1 hB1 hr0
    have hcv := one_conv
    go_enter Tryz.func43, Tryz.ntmps43
    go_upto_region 7 with (go_at_call 105; refine (HHS.out _).mono ?_; rintro e w' ⟨rfl, rfl⟩)
    generalize World.alloc (World.alloc (World.alloc w _) _) _ = w0 at *
    generalize w.heap.size + 1 + 1 = bs at *
    generalize w.heap.size + 1 = bw at *
    generalize hp : ((ByteArray.empty, 0) : Pen) = q0 at *
    have HPQ0 := Lib.hid hp
    have HS0 := Lib.hid (show q0.1.size ≤ 0 by rw [← hp]; exact Nat.le_refl _)
    clear hp HBX HHS HBW
    obtain ⟨h0, h1, h2, h3, h4, h5, h6, h7, h8, h9, h10⟩ := HA0.out
    have hxs := fieldText_le n.nm 100 true
    go_wp2_with fail
    refine (Text1_any bw bw bs HNE.out (Nat.le_refl _) HBS.out q0 n.nm 100 true _ HP0.out HOK.out.nm (by unfold i64; omega) (by have := HS0.out; omega)).mono ?_
    rintro e w1 ⟨rfl, hq, hb⟩
    have HB1 := Lib.hid (HB0.out.trans (hb.mono HLT.out))
    have HA1 := Lib.hid (HA0.out.below hb HLU.out)
    have HS1 := Lib.hid (show (refPut q0 (fieldText n.nm 100 true)).1.size ≤ 512 from refPut_le HS0.out hxs)
    have HP1 := Lib.hid hq
    clear hq hb hxs h0 h1 h2 h3 h4 h5 h6 h7 h8 h9 h10
    generalize hp : refPut q0 (fieldText n.nm 100 true) = q1 at *
    have HPQ1 := Lib.hid hp
    clear hp
    obtain ⟨h0, h1, h2, h3, h4, h5, h6, h7, h8, h9, h10⟩ := HA1.out
    have hxs := octText_le (n.mode) 8
    go_wp2_with fail
    refine (Num1_any bw bw bs HNE.out (Nat.le_refl _) HBS.out q1 (n.mode) 8 _ HP1.out (by have := HS1.out; omega)).mono ?_
    rintro e w2 ⟨rfl, hq, hb⟩
    have HB2 := Lib.hid (HB1.out.trans (hb.mono HLT.out))
    have HA2 := Lib.hid (HA1.out.below hb HLU.out)
    have HS2 := Lib.hid (show (refPut q1 (octText n.mode 8)).1.size ≤ 1024 from refPut_le HS1.out hxs)
    have HP2 := Lib.hid hq
    clear hq hb hxs h0 h1 h2 h3 h4 h5 h6 h7 h8 h9 h10
    generalize hp : refPut q1 (octText n.mode 8) = q2 at *
    have HPQ2 := Lib.hid hp
    clear hp
    obtain ⟨h0, h1, h2, h3, h4, h5, h6, h7, h8, h9, h10⟩ := HA2.out
    have hxs := octText_le (n.uid) 8
    go_wp2_with fail
    refine (Num1_any bw bw bs HNE.out (Nat.le_refl _) HBS.out q2 (n.uid) 8 _ HP2.out (by have := HS2.out; omega)).mono ?_
    rintro e w3 ⟨rfl, hq, hb⟩
    have HB3 := Lib.hid (HB2.out.trans (hb.mono HLT.out))
    have HA3 := Lib.hid (HA2.out.below hb HLU.out)
    have HS3 := Lib.hid (show (refPut q2 (octText n.uid 8)).1.size ≤ 1536 from refPut_le HS2.out hxs)
    have HP3 := Lib.hid hq
    clear hq hb hxs h0 h1 h2 h3 h4 h5 h6 h7 h8 h9 h10
    generalize hp : refPut q2 (octText n.uid 8) = q3 at *
    have HPQ3 := Lib.hid hp
    clear hp
    obtain ⟨h0, h1, h2, h3, h4, h5, h6, h7, h8, h9, h10⟩ := HA3.out
    have hxs := octText_le (n.gid) 8
    go_wp2_with fail
    refine (Num1_any bw bw bs HNE.out (Nat.le_refl _) HBS.out q3 (n.gid) 8 _ HP3.out (by have := HS3.out; omega)).mono ?_
    rintro e w4 ⟨rfl, hq, hb⟩
    have HB4 := Lib.hid (HB3.out.trans (hb.mono HLT.out))
    have HA4 := Lib.hid (HA3.out.below hb HLU.out)
    have HS4 := Lib.hid (show (refPut q3 (octText n.gid 8)).1.size ≤ 2048 from refPut_le HS3.out hxs)
    have HP4 := Lib.hid hq
    clear hq hb hxs h0 h1 h2 h3 h4 h5 h6 h7 h8 h9 h10
    generalize hp : refPut q3 (octText n.gid 8) = q4 at *
    have HPQ4 := Lib.hid hp
    clear hp
    obtain ⟨h0, h1, h2, h3, h4, h5, h6, h7, h8, h9, h10⟩ := HA4.out
    have hxs := octText_le (n.size) 12
    go_wp2_with fail
    refine (Num1_any bw bw bs HNE.out (Nat.le_refl _) HBS.out q4 (n.size) 12 _ HP4.out (by have := HS4.out; omega)).mono ?_
    rintro e w5 ⟨rfl, hq, hb⟩
    have HB5 := Lib.hid (HB4.out.trans (hb.mono HLT.out))
    have HA5 := Lib.hid (HA4.out.below hb HLU.out)
    have HS5 := Lib.hid (show (refPut q4 (octText n.size 12)).1.size ≤ 2560 from refPut_le HS4.out hxs)
    have HP5 := Lib.hid hq
    clear hq hb hxs h0 h1 h2 h3 h4 h5 h6 h7 h8 h9 h10
    generalize hp : refPut q4 (octText n.size 12) = q5 at *
    have HPQ5 := Lib.hid hp
    clear hp
    obtain ⟨h0, h1, h2, h3, h4, h5, h6, h7, h8, h9, h10⟩ := HA5.out
    have hxs := octText_le (n.time) 12
    go_wp2_with fail
    refine (Num1_any bw bw bs HNE.out (Nat.le_refl _) HBS.out q5 (n.time) 12 _ HP5.out (by have := HS5.out; omega)).mono ?_
    rintro e w6 ⟨rfl, hq, hb⟩
    have HB6 := Lib.hid (HB5.out.trans (hb.mono HLT.out))
    have HA6 := Lib.hid (HA5.out.below hb HLU.out)
    have HS6 := Lib.hid (show (refPut q5 (octText n.time 12)).1.size ≤ 3072 from refPut_le HS5.out hxs)
    have HP6 := Lib.hid hq
    clear hq hb hxs h0 h1 h2 h3 h4 h5 h6 h7 h8 h9 h10
    generalize hp : refPut q5 (octText n.time 12) = q6 at *
    have HPQ6 := Lib.hid hp
    clear hp
    have hz1 : (ofL [n.typ]).size = 1 := ofL_size _
    have hz8 : ((⟨#[32, 32, 32, 32, 32, 32, 32, 32]⟩ : ByteArray) ++ ofL [n.typ]).size = 9 := by rw [ByteArray.size_append, ofL_size]; rfl
    have hxs : (((⟨#[32, 32, 32, 32, 32, 32, 32, 32]⟩ : ByteArray) ++ ofL [n.typ], 0) : Pen).1.size ≤ 512 := by show ((⟨#[32, 32, 32, 32, 32, 32, 32, 32]⟩ : ByteArray) ++ ofL [n.typ]).size ≤ 512; omega
    have hz : q6.1.size ≤ 1000000 := by have := HS6.out; omega
    have HW7 := Lib.hid ((Below.refl w6.heap.size w6).alloc (Nat.le_refl _) (.cells #[.int .u8 n.typ.toNat] 5))
    have HQ7 := Lib.hid (HP6.out.below HW7.out)
    obtain ⟨_, c2, _, f2⟩ := HP6.out
    obtain ⟨_, d2, _, g2⟩ := HQ7.out
    have hq := HQ7.out.putS HNE.out (q6.1 ++ ((⟨#[32, 32, 32, 32, 32, 32, 32, 32]⟩ : ByteArray) ++ ofL [n.typ]))
    rw [← refPut_lit] at hq
    have hb := (HW7.out.mono (Nat.le_of_lt HP6.out.lt.1)).trans ((Below.refl bw _).setCell (p := ⟨bs, 0, none⟩) HBS.out (.string (q6.1 ++ ((⟨#[32, 32, 32, 32, 32, 32, 32, 32]⟩ : ByteArray) ++ ofL [n.typ]))))
    have HLK := Lib.hid hb
    obtain ⟨h0, h1, h2, h3, h4, h5, h6, h7, h8, h9, h10⟩ := HA6.out
    have HQ8 := Lib.hid hq
    clear hq hb
    go_upto_region 14 with fail
    have hq := HQ8.out
    have hb := HLK.out
    generalize World.setCell (World.alloc w6 _) _ _ = w7 at *
    clear c2 f2 d2 g2 HQ7 HW7 HQ8 HLK hz1 hz8 hz
    have HB7 := Lib.hid (HB6.out.trans (hb.mono HLT.out))
    have HA7 := Lib.hid (HA6.out.below hb HLU.out)
    have HS7 := Lib.hid (show (refPut q6 ((⟨#[32, 32, 32, 32, 32, 32, 32, 32]⟩ : ByteArray) ++ ofL [n.typ], 0)).1.size ≤ 3584 from refPut_le HS6.out hxs)
    have HP7 := Lib.hid hq
    clear hq hb hxs h0 h1 h2 h3 h4 h5 h6 h7 h8 h9 h10
    generalize hp : refPut q6 ((⟨#[32, 32, 32, 32, 32, 32, 32, 32]⟩ : ByteArray) ++ ofL [n.typ], 0) = q7 at *
    have HPQ7 := Lib.hid hp
    clear hp
    obtain ⟨h0, h1, h2, h3, h4, h5, h6, h7, h8, h9, h10⟩ := HA7.out
    have hxs := fieldText_le n.lk 100 true
    go_wp2_with fail
    refine (Text1_any bw bw bs HNE.out (Nat.le_refl _) HBS.out q7 n.lk 100 true _ HP7.out HOK.out.lk (by unfold i64; omega) (by have := HS7.out; omega)).mono ?_
    rintro e w8 ⟨rfl, hq, hb⟩
    have HB8 := Lib.hid (HB7.out.trans (hb.mono HLT.out))
    have HA8 := Lib.hid (HA7.out.below hb HLU.out)
    have HS8 := Lib.hid (show (refPut q7 (fieldText n.lk 100 true)).1.size ≤ 4096 from refPut_le HS7.out hxs)
    have HP8 := Lib.hid hq
    clear hq hb hxs h0 h1 h2 h3 h4 h5 h6 h7 h8 h9 h10
    generalize hp : refPut q7 (fieldText n.lk 100 true) = q8 at *
    have HPQ8 := Lib.hid hp
    clear hp
    have HZ1 := Lib.hid (fun w => show Calls Tryz.prog 60 #[.int .i64 1] w fun e w' => e = .returned (.string ⟨#[0]⟩) ∧ w = w' from zeros_any 1 w (by omega) (by omega))
    obtain ⟨_, c2, _, f2⟩ := HP8.out
    have hz : q8.1.size ≤ 1000000 := by have := HS8.out; omega
    go_upto_region 15 with fail
    go_cut [3] from 53 (fun r wc => r = .int .i64 0 ∧ wc = (w8.setCell ⟨bs, 0, none⟩ (.string (q8.1 ++ ((⟨#[117, 115, 116, 97, 114]⟩ : ByteArray) ++ (⟨#[0]⟩ : ByteArray) ++ (⟨#[48, 48]⟩ : ByteArray))))).drew)
    case first =>
      go_region_with (go_at_call 60; refine (HZ1.out _).mono ?_; rintro e w' ⟨rfl, rfl⟩)
      all_goals (go_wp2_with fail; go_meet; exact ⟨rfl, rfl⟩)
    case rest =>
      obtain ⟨rfl, hwc⟩ := hcut
      have hq : RefB bw bs (q8.1 ++ ((⟨#[117, 115, 116, 97, 114]⟩ : ByteArray) ++ (⟨#[0]⟩ : ByteArray) ++ (⟨#[48, 48]⟩ : ByteArray)), q8.2) wc := by rw [hwc]; exact HP8.out.putS HNE.out _
      rw [← refPut_lit] at hq
      have hb : Below bw w8 wc := by rw [hwc]; exact ((Below.refl bw _).setCell (p := ⟨bs, 0, none⟩) HBS.out _).drew
      clear hwc c2 f2 hz
      obtain ⟨w9, rfl⟩ : ∃ x, x = wc := ⟨wc, rfl⟩
      have hxs : ((((⟨#[117, 115, 116, 97, 114]⟩ : ByteArray) ++ (⟨#[0]⟩ : ByteArray) ++ (⟨#[48, 48]⟩ : ByteArray)), 0) : Pen).1.size ≤ 512 := by show (((⟨#[117, 115, 116, 97, 114]⟩ : ByteArray) ++ (⟨#[0]⟩ : ByteArray) ++ (⟨#[48, 48]⟩ : ByteArray))).size ≤ 512; decide
      obtain ⟨h0, h1, h2, h3, h4, h5, h6, h7, h8, h9, h10⟩ := HA8.out
      have HB9 := Lib.hid (HB8.out.trans (hb.mono HLT.out))
      have HA9 := Lib.hid (HA8.out.below hb HLU.out)
      have HS9 := Lib.hid (show (refPut q8 (((⟨#[117, 115, 116, 97, 114]⟩ : ByteArray) ++ (⟨#[0]⟩ : ByteArray) ++ (⟨#[48, 48]⟩ : ByteArray)), 0)).1.size ≤ 4608 from refPut_le HS8.out hxs)
      have HP9 := Lib.hid hq
      clear hq hb hxs h0 h1 h2 h3 h4 h5 h6 h7 h8 h9 h10
      generalize hp : refPut q8 (((⟨#[117, 115, 116, 97, 114]⟩ : ByteArray) ++ (⟨#[0]⟩ : ByteArray) ++ (⟨#[48, 48]⟩ : ByteArray)), 0) = q9 at *
      have HPQ9 := Lib.hid hp
      clear hp
      obtain ⟨h0, h1, h2, h3, h4, h5, h6, h7, h8, h9, h10⟩ := HA9.out
      have hxs := fieldText_le n.user 32 false
      go_wp2_with fail
      refine (Text1_any bw bw bs HNE.out (Nat.le_refl _) HBS.out q9 n.user 32 false _ HP9.out HOK.out.user (by unfold i64; omega) (by have := HS9.out; omega)).mono ?_
      rintro e w10 ⟨rfl, hq, hb⟩
      have HB10 := Lib.hid (HB9.out.trans (hb.mono HLT.out))
      have HA10 := Lib.hid (HA9.out.below hb HLU.out)
      have HS10 := Lib.hid (show (refPut q9 (fieldText n.user 32 false)).1.size ≤ 5120 from refPut_le HS9.out hxs)
      have HP10 := Lib.hid hq
      clear hq hb hxs h0 h1 h2 h3 h4 h5 h6 h7 h8 h9 h10
      generalize hp : refPut q9 (fieldText n.user 32 false) = q10 at *
      have HPQ10 := Lib.hid hp
      clear hp
      obtain ⟨h0, h1, h2, h3, h4, h5, h6, h7, h8, h9, h10⟩ := HA10.out
      have hxs := fieldText_le n.group 32 false
      go_wp2_with fail
      refine (Text1_any bw bw bs HNE.out (Nat.le_refl _) HBS.out q10 n.group 32 false _ HP10.out HOK.out.group (by unfold i64; omega) (by have := HS10.out; omega)).mono ?_
      rintro e w11 ⟨rfl, hq, hb⟩
      have HB11 := Lib.hid (HB10.out.trans (hb.mono HLT.out))
      have HA11 := Lib.hid (HA10.out.below hb HLU.out)
      have HS11 := Lib.hid (show (refPut q10 (fieldText n.group 32 false)).1.size ≤ 5632 from refPut_le HS10.out hxs)
      have HP11 := Lib.hid hq
      clear hq hb hxs h0 h1 h2 h3 h4 h5 h6 h7 h8 h9 h10
      generalize hp : refPut q10 (fieldText n.group 32 false) = q11 at *
      have HPQ11 := Lib.hid hp
      clear hp
      obtain ⟨h0, h1, h2, h3, h4, h5, h6, h7, h8, h9, h10⟩ := HA11.out
      have hxs := octText_le (0) 8
      go_wp2_with fail
      refine (Num1_any bw bw bs HNE.out (Nat.le_refl _) HBS.out q11 (0) 8 _ HP11.out (by have := HS11.out; omega)).mono ?_
      rintro e w12 ⟨rfl, hq, hb⟩
      have HB12 := Lib.hid (HB11.out.trans (hb.mono HLT.out))
      have HA12 := Lib.hid (HA11.out.below hb HLU.out)
      have HS12 := Lib.hid (show (refPut q11 (octText 0 8)).1.size ≤ 6144 from refPut_le HS11.out hxs)
      have HP12 := Lib.hid hq
      clear hq hb hxs h0 h1 h2 h3 h4 h5 h6 h7 h8 h9 h10
      generalize hp : refPut q11 (octText 0 8) = q12 at *
      have HPQ12 := Lib.hid hp
      clear hp
      obtain ⟨h0, h1, h2, h3, h4, h5, h6, h7, h8, h9, h10⟩ := HA12.out
      have hxs := octText_le (0) 8
      go_wp2_with fail
      refine (Num1_any bw bw bs HNE.out (Nat.le_refl _) HBS.out q12 (0) 8 _ HP12.out (by have := HS12.out; omega)).mono ?_
      rintro e w13 ⟨rfl, hq, hb⟩
      have HB13 := Lib.hid (HB12.out.trans (hb.mono HLT.out))
      have HA13 := Lib.hid (HA12.out.below hb HLU.out)
      have HS13 := Lib.hid (show (refPut q12 (octText 0 8)).1.size ≤ 6656 from refPut_le HS12.out hxs)
      have HP13 := Lib.hid hq
      clear hq hb hxs h0 h1 h2 h3 h4 h5 h6 h7 h8 h9 h10
      generalize hp : refPut q12 (octText 0 8) = q13 at *
      have HPQ13 := Lib.hid hp
      clear hp
      obtain ⟨h0, h1, h2, h3, h4, h5, h6, h7, h8, h9, h10⟩ := HA13.out
      have hxs := fieldText_le n.px 155 true
      go_wp2_with fail
      refine (Text1_any bw bw bs HNE.out (Nat.le_refl _) HBS.out q13 n.px 155 true _ HP13.out HOK.out.px (by unfold i64; omega) (by have := HS13.out; omega)).mono ?_
      rintro e w14 ⟨rfl, hq, hb⟩
      have HB14 := Lib.hid (HB13.out.trans (hb.mono HLT.out))
      have HA14 := Lib.hid (HA13.out.below hb HLU.out)
      have HS14 := Lib.hid (show (refPut q13 (fieldText n.px 155 true)).1.size ≤ 7168 from refPut_le HS13.out hxs)
      have HP14 := Lib.hid hq
      clear hq hb hxs h0 h1 h2 h3 h4 h5 h6 h7 h8 h9 h10
      generalize hp : refPut q13 (fieldText n.px 155 true) = q14 at *
      have HPQ14 := Lib.hid hp
      clear hp
      have HZ2 := Lib.hid (fun w => zeros_any 12 w (by omega) (by omega))
      have hx15 : (zerosS (12 : Int).toNat).size = 12 := by rw [zerosS_size]; rfl
      generalize hx : zerosS (12 : Int).toNat = x15 at *
      have HX15 := Lib.hid hx
      clear hx
      obtain ⟨_, c2, _, f2⟩ := HP14.out
      have hz : q14.1.size ≤ 1000000 := by have := HS14.out; omega
      go_upto_region 21 with fail
      go_cut [3] from 74 (fun r wc => r = .int .i64 0 ∧ wc = (w14.setCell ⟨bs, 0, none⟩ (.string (q14.1 ++ x15))).drew)
      case first =>
        go_region_with (go_at_call 60; refine (HZ2.out _).mono ?_; rintro e w' ⟨rfl, rfl⟩)
        all_goals (go_wp2_with fail; go_meet; exact ⟨rfl, rfl⟩)
      case rest =>
        obtain ⟨rfl, hwc⟩ := hcut
        have hq : RefB bw bs (q14.1 ++ x15, q14.2) wc := by rw [hwc]; exact HP14.out.putS HNE.out _
        rw [← refPut_lit] at hq
        have hb : Below bw w14 wc := by rw [hwc]; exact ((Below.refl bw _).setCell (p := ⟨bs, 0, none⟩) HBS.out _).drew
        clear hwc c2 f2 hz
        obtain ⟨w15, rfl⟩ : ∃ x, x = wc := ⟨wc, rfl⟩
        have hxs : ((x15, 0) : Pen).1.size ≤ 512 := by show x15.size ≤ 512; omega
        obtain ⟨h0, h1, h2, h3, h4, h5, h6, h7, h8, h9, h10⟩ := HA14.out
        have HB15 := Lib.hid (HB14.out.trans (hb.mono HLT.out))
        have HA15 := Lib.hid (HA14.out.below hb HLU.out)
        have HS15 := Lib.hid (show (refPut q14 (x15, 0)).1.size ≤ 7680 from refPut_le HS14.out hxs)
        have HP15 := Lib.hid hq
        clear hq hb hxs h0 h1 h2 h3 h4 h5 h6 h7 h8 h9 h10
        generalize hp : refPut q14 (x15, 0) = q15 at *
        have HPQ15 := Lib.hid hp
        clear hp
        have HREF := Lib.hid (show headRef n = q15 by
          unfold headRef refAll pNum pRest pEnd
          simp only [List.foldl_append, List.foldl_cons, List.foldl_nil]
          rw [HPQ0.out]
          rw [show refPut q0 (fieldText n.nm 100 true) = q1 from HPQ1.out, show refPut q1 (octText n.mode 8) = q2 from HPQ2.out, show refPut q2 (octText n.uid 8) = q3 from HPQ3.out, show refPut q3 (octText n.gid 8) = q4 from HPQ4.out, show refPut q4 (octText n.size 12) = q5 from HPQ5.out, show refPut q5 (octText n.time 12) = q6 from HPQ6.out, show refPut q6 (ofL (eightB ++ [n.typ]), 0) = q7 from by rw [← ofL_append]; exact HPQ7.out, show refPut q7 (fieldText n.lk 100 true) = q8 from HPQ8.out, show refPut q8 (ofL ustarB, 0) = q9 from HPQ9.out, show refPut q9 (fieldText n.user 32 false) = q10 from HPQ10.out, show refPut q10 (fieldText n.group 32 false) = q11 from HPQ11.out, show refPut q11 (ofL zero8B, 0) = q12 from HPQ12.out, show refPut q12 (ofL zero8B, 0) = q13 from HPQ13.out, show refPut q13 (fieldText n.px 155 true) = q14 from HPQ14.out, show refPut q14 (zerosS 12, 0) = q15 from by rw [show zerosS 12 = x15 from HX15.out]; exact HPQ15.out])
        obtain ⟨c1, c2, _, _⟩ := HP15.out
        by_cases hz : q15.2 = 0
        · have hr0 : (headRef n).2 = 0 := by rw [HREF.out]; exact hz
          have HF := Lib.hid (headText_ok HH.out hr0)
          have hsz : q15.1.size = 512 := by have := head_size n hr0; rw [HREF.out] at this; exact this
          rw [HREF.out] at HF
          rw [hz] at c1
          clear hz hr0
          generalize q15.1 = s at *
          have hbd := headSum_bd hsz
          have HF2 := Lib.hid (show headText n = (s.extract 0 148 ++ (octText (headSum s).1 7).1 ++ (⟨#[32]⟩ : ByteArray) ++ s.extract 156 512, 0) from by have := HF.out; unfold sumIn at this; rw [hsz] at this; exact this)
          go_wp2_with fail
          refine (HeadSum_any s _ (by unfold maxLen; omega)).mono ?_
          rintro e w16 ⟨rfl, rfl⟩
          go_wp2_with fail
          refine (OctText_any (headSum s).1 7 _).mono ?_
          rintro e w17 ⟨rfl, rfl⟩
          have ho := octText_le (headSum s).1 7
          clear HF
          generalize octText (headSum s).1 7 = y at *
          go_wp2_with fail
          go_quiet (fail)
          go_wp2
          go_ret2
          exact ⟨ret_si HF2.out, below_drawN HB15.out⟩
        · have HF := Lib.hid (headText_bad HH.out (by rw [HREF.out]; exact hz))
          rw [HREF.out] at HF
          have hne : (q15.2 != 0) = true := by rw [bne_iff_ne]; exact hz
          clear hz
          generalize q15.2 = q at *
          go_wp2_with fail
          go_quiet (fail)
          go_wp2
          go_ret2
          exact ⟨ret_si HF.out, below_drawN HB15.out⟩
open Go.Creel Go.RowKit
theorem PaxHeadR_any (n : Nat) (w : World) (hn : n ≤ 10000) :
    Calls Tryz.prog 43 #[.agg #[.string ⟨#[64, 112, 97, 120]⟩, .string ⟨#[]⟩, .string ⟨#[]⟩, .int .i64 0, .int .i64 0, .int .i64 0, .int .i64 n, .int .i64 0, .int .u8 120, .string ⟨#[]⟩, .string ⟨#[]⟩]] w fun e w' => e = .returned (.tuple #[.string (headText (paxHead n)).1, .int .i64 (headText (paxHead n)).2]) ∧ Below w.heap.size w w' :=
  HeadText_any (paxHead n) w (by constructor <;> simp only [paxHead] <;> first | decide | (unfold i64; omega))
set_option maxRecDepth 100000 in
set_option maxHeartbeats 4000000 in
theorem MemB_ok (x : Ent) (w : World) (hx : x.Ok maxLen w) (hE : entFault x = 0) (hT : Pow10 w) :
    Calls Tryz.prog 12 #[x.val] w (RetM 5 w (memB x, 0)) := by
  obtain ⟨i0, hi, hz0, hz1, hz2⟩ := info_parts info_byte2
  have HI := Lib.hid (And.intro hi (And.intro hz0 (And.intro hz1 hz2)))
  have HR := Lib.hid (entRight hE)
  have HBX := Lib.hid ((Below.refl w.heap.size w).alloc (Nat.le_refl _) (.cells #[.string x.path, .int .i64 x.kind, .string x.target, .int .i64 x.mt.mode, .int .i64 x.mt.uid, .int .i64 x.mt.gid, .string x.mt.user, .string x.mt.group, .int .i64 x.mt.second, .int .i64 x.mt.nano, .slice x.da x.data.length x.dcap] 26))
  have HEB := Lib.hid (entAt_box w x 26)
  have HH := Lib.hid (MemHead_ok x _ (hx.below HBX.out) hE (hT.below HBX.out))
  have HRC := Lib.hid (fun W hb => MemRecs_ok x W (hx.below (w' := W) hb) hE (hT.below (w' := W) hb))
  have HXD := Lib.hid hx.data
  have HT := Lib.hid hT
  have HSM := Lib.hid (memRecs_small HR.out)
  have HMH := Lib.hid (memHead_small HR.out)
  have HLN := Lib.hid (rl7_len x)
  rw [rl7_eq] at HLN
  have hdl := HR.out.data
  have hpd := padFill_le x.data
  have hht := headText_le (memHead x)
  have HF : Hid (memB x = memPre (memRecs x) ++ ((headText (memHead x)).1.data.toList ++ padFill x.data)) := Lib.hid rfl
  clear hx hE hT hi hz0 hz1 hz2
  go_enter Tryz.func12, Tryz.ntmps12
  go_wp2_with fail
  refine HH.out.mono ?_
  rintro e w1 ⟨rfl, hb⟩
  have HB1 := Lib.hid (HBX.out.trans (hb.mono HBX.out.size))
  have HE1 := Lib.hid (HEB.out.below hb)
  clear hb HH HBX HEB
  generalize memHead x = mh at *
  obtain ⟨h0, h1, h2, h3, h4, h5, h6, h7, h8, h9, h10⟩ := HE1.out.zero
  go_upto_region 4 with fail
  have HA := Lib.hid ((Below.refl w1.heap.size w1).alloc (Nat.le_refl _) (.cells #[.string mh.nm, .string mh.px, .string mh.lk, .int .i64 mh.mode, .int .i64 mh.uid, .int .i64 mh.gid, .int .i64 mh.size, .int .i64 mh.time, .int .u8 mh.typ.toNat, .string mh.user, .string mh.group] 62))
  have HB2 := Lib.hid (HB1.out.trans (HA.out.mono HB1.out.size))
  have HE2 := Lib.hid (HE1.out.below HA.out)
  have HD2 : Hid ((w1.alloc (.cells #[.string mh.nm, .string mh.px, .string mh.lk, .int .i64 mh.mode, .int .i64 mh.uid, .int .i64 mh.gid, .int .i64 mh.size, .int .i64 mh.time, .int .u8 mh.typ.toNat, .string mh.user, .string mh.group] 62)).heap[w1.heap.size]? = some (.cells #[.string mh.nm, .string mh.px, .string mh.lk, .int .i64 mh.mode, .int .i64 mh.uid, .int .i64 mh.gid, .int .i64 mh.size, .int .i64 mh.time, .int .u8 mh.typ.toNat, .string mh.user, .string mh.group] 62 (0, 0))) := Lib.hid (heap_alloc_new _ _)
  clear h0 h1 h2 h3 h4 h5 h6 h7 h8 h9 h10
  generalize w1.heap.size = bh at *
  generalize w1.alloc (.cells #[.string mh.nm, .string mh.px, .string mh.lk, .int .i64 mh.mode, .int .i64 mh.uid, .int .i64 mh.gid, .int .i64 mh.size, .int .i64 mh.time, .int .u8 mh.typ.toNat, .string mh.user, .string mh.group] 62) = w2 at *
  clear HA HB1 HE1
  obtain ⟨h0, h1, h2, h3, h4, h5, h6, h7, h8, h9, h10⟩ := HE2.out.zero
  go_wp2_with fail
  refine (HRC.out _ HB2.out).mono ?_
  rintro e w3 ⟨v, rfl, ho, hb⟩
  simp only at ho ⊢
  generalize memRecs x = l at *
  obtain ⟨a, cp, hv, hcp, _⟩ := OwnRecs.form2 ho
  have HOR := Lib.hid ho
  have HB3 := Lib.hid (HB2.out.trans (hb.mono HB2.out.size))
  have HE3 := Lib.hid (HE2.out.below hb)
  have HD3 := Lib.hid ((hb.block bh (Array.getElem?_eq_some_iff.1 HD2.out).1).trans HD2.out)
  subst hv
  clear ho hb h0 h1 h2 h3 h4 h5 h6 h7 h8 h9 h10 HB2 HE2 HD2 HRC
  obtain ⟨c0, c1, c2, c3, c4, c5, c6, c7, c8, c9, c10⟩ := cells11 HD3.out
  go_wp2_with fail
  refine (HeadText_any mh _ HMH.out).mono ?_
  rintro e w4 ⟨rfl, hb⟩
  have HB4 := Lib.hid (HB3.out.trans (hb.mono HB3.out.size))
  have HE4 := Lib.hid (HE3.out.below hb)
  have HOR4 := Lib.hid (HOR.out.below hb)
  clear hb c0 c1 c2 c3 c4 c5 c6 c7 c8 c9 c10 HB3 HE3 HD3 HOR
  generalize (headText mh).1 = ht at *
  generalize (headText mh).2 = he at *
  have hcv := fun w => conv_str w ht
  have hlt4 := HE4.out.lt
  have HXD4 := Lib.hid (fun W (hb : Below w4.heap.size w4 W) => HXD.out.below (w' := W) (fun _ _ h => h) (HB4.out.trans (hb.mono HB4.out.size)))
  have HB44 := Lib.hid (Below.refl w4.heap.size w4)
  have hc5 := (HE4.out.below (conv_below w4 5 ht)).data
  go_wp2_with fail
  have HCV5 := Lib.hid (conv_below w4 5 ht)
  have HCM5 := Lib.hid (OwnM.conv w4 5 ht (by unfold maxLen; omega))
  have HBV5 := Lib.hid (HB44.out.trans (HCV5.out.mono HB44.out.size))
  generalize hg5 : grownCap w4 (ht).size 0 5 = gc5 at *
  generalize Lib.bytesWorld w4 5 ht = w5 at *
  clear hc5
  refine (PadFill_any (N := maxLen) _ x.data _ (HXD4.out _ HBV5.out) (by omega)).mono ?_
  rintro e w6 ⟨v6, rfl, ho, hb⟩
  have HO6 := Lib.hid (OwnBs.marked ho)
  have HB6 := Lib.hid (HBV5.out.trans (hb.mono HBV5.out.size))
  have HOC6 := Lib.hid (HCM5.out.below hb)
  clear ho hb
  have HBD : Hid (ht.data.toList.length + (padFill x.data).length ≤ 140737488355328) := Lib.hid (by rw [toL_len]; omega)
  have HO6S := Lib.hid (HO6.out.slice (N := maxLen) (by unfold maxLen; omega))
  go_upto_region 7 with (at_builtin; refine wpList_appM rfl (.tmp 34) (.tmp 37) 24 24 rfl _ _ rfl rfl (fun ty => app_m _ 24 24 5 ty i0 Tryz.underlying24 HI.out.1 HI.out.2.1 HI.out.2.2.1 HI.out.2.2.2 HOC6.out (src_bytes (N := maxLen) Tryz.underlying24 HO6S.out) HBD.out HB6.out.size) ?_; intro v7 w7 ho hg; have HO7 := Lib.hid ho; have HB7 := Lib.hid (OwnM.grown HB6.out hg HOC6.out HB6.out.size (Nat.le_refl _)); clear ho hg)
  have HF2 : Hid (memB x = memPre l ++ (ht.data.toList ++ padFill x.data)) := HF
  generalize hpf : padFill x.data = pf at *
  by_cases hl0 : l.length = 0
  · have hq : ((l.length : Int) == 0) = true := by rw [beq_iff_eq]; omega
    have HPN := Lib.hid (memPre_no hl0)
    clear hl0
    go_wp2
    go_ret2
    exact ⟨_, rfl, by rw [HF2.out, HPN.out, List.nil_append]; exact HO7.out.mono HB4.out.size, HB4.out.trans (HB7.out.mono HB4.out.size)⟩
  · have hq : ((l.length : Int) == 0) = false := by rw [beq_eq_false_iff_ne]; omega
    have HPY := Lib.hid (memPre_yes hl0)
    clear hl0
    have HOR7 := Lib.hid (HOR4.out.below HB7.out)
    have HSL := Lib.hid (OwnRecs.slice HOR7.out (by have := HLN.out; unfold maxLen; omega) HSM.out)
    have hpl := paxWrite_le l
    have HPW := Lib.hid (fun w h hT => PaxT_any (.slice a l.length cp) l w h hT)
    have hhp := headText_le (paxHead (paxWrite l).1.size)
    have HB70 := Lib.hid (HB4.out.trans (HB7.out.mono HB4.out.size))
    go_wp2_with fail
    refine (HPW.out _ HSL.out (HT.out.below HB70.out)).mono ?_
    rintro e w8 ⟨rfl, hb⟩
    have HB8 := Lib.hid hb
    clear hb HPW HSL HOR7
    generalize (paxWrite l).1 = pt at *
    generalize (paxWrite l).2 = pe at *
    go_wp2_with fail
    refine (PaxHeadR_any pt.size _ (by omega)).mono ?_
    rintro e w9 ⟨rfl, hb⟩
    have HB9 := Lib.hid (HB8.out.trans (hb.mono HB8.out.size))
    have HO9 := Lib.hid (HO7.out.below HB9.out)
    clear hb HB8 HO7
    generalize (headText (paxHead pt.size)).1 = hp at *
    generalize (headText (paxHead pt.size)).2 = hpe at *
    have hcu := fun w => conv_str w hp
    have hct := fun w => conv_str w pt
    have HB99 := Lib.hid (Below.refl w9.heap.size w9)
    go_wp2_with fail
    have HCV10 := Lib.hid (conv_below w9 5 hp)
    have HCM10 := Lib.hid (OwnM.conv w9 5 hp (by unfold maxLen; omega))
    have HBV10 := Lib.hid (HB99.out.trans (HCV10.out.mono HB99.out.size))
    generalize hg10 : grownCap w9 (hp).size 0 5 = gc10 at *
    generalize Lib.bytesWorld w9 5 hp = w10 at *
    have HCV11 := Lib.hid (conv_below w10 5 pt)
    have HCM11 := Lib.hid (OwnM.conv w10 5 pt (by unfold maxLen; omega))
    have HBV11 := Lib.hid (HBV10.out.trans (HCV11.out.mono HBV10.out.size))
    generalize hg11 : grownCap w10 (pt).size 0 5 = gc11 at *
    generalize Lib.bytesWorld w10 5 pt = w11 at *
    refine (PadFill_any (N := maxLen) _ pt.data.toList _ (HCM11.out.slice (by rw [toL_len]; unfold maxLen; omega)) (by rw [toL_len]; omega)).mono ?_
    rintro e w12 ⟨v12, rfl, ho, hb⟩
    have hpfp := padFill_le pt.data.toList
    rw [toL_len] at hpfp
    have HO12 := Lib.hid ((OwnBs.marked ho).slice (N := maxLen) (by unfold maxLen; omega))
    have HB12 := Lib.hid (HBV11.out.trans (hb.mono HBV11.out.size))
    have HOC12 := Lib.hid ((HCM10.out.below HCV11.out).below hb)
    clear ho hb
    have HBE : Hid (hp.data.toList.length + (padFill pt.data.toList).length ≤ 140737488355328) := Lib.hid (by rw [toL_len]; omega)
    have HBG : Hid ((hp.data.toList ++ padFill pt.data.toList).length + (ht.data.toList ++ pf).length ≤ 140737488355328) := Lib.hid (by rw [List.length_append, List.length_append, toL_len, toL_len]; omega)
    have HLG : Hid ((ht.data.toList ++ pf).length ≤ maxLen) := Lib.hid (by rw [List.length_append, toL_len]; unfold maxLen; omega)
    go_wp2_with (first
      | (at_builtin; refine wpList_appM rfl (.tmp 56) (.tmp 59) 24 24 rfl _ _ rfl rfl (fun ty => app_m _ 24 24 5 ty i0 Tryz.underlying24 HI.out.1 HI.out.2.1 HI.out.2.2.1 HI.out.2.2.2 HOC12.out (src_bytes (N := maxLen) Tryz.underlying24 HO12.out) HBE.out HB12.out.size) ?_; intro v13 w13 ho hg; have HO13 := Lib.hid ho; have HB13 := Lib.hid (OwnM.grown HB12.out hg HOC12.out HB12.out.size (Nat.le_refl _)); have HS13 := Lib.hid ((HO9.out.below HB13.out).slice HLG.out); clear ho hg)
      | (at_builtin; refine wpList_appM rfl (.tmp 60) (.tmp 61) 24 24 rfl _ _ rfl rfl (fun ty => app_m _ 24 24 5 ty i0 Tryz.underlying24 HI.out.1 HI.out.2.1 HI.out.2.2.1 HI.out.2.2.2 HO13.out (src_bytes (N := maxLen) Tryz.underlying24 HS13.out) HBG.out HB13.out.size) ?_; intro v14 w14 ho hg; have HO14 := Lib.hid ho; have HB14 := Lib.hid (OwnM.grown HB13.out hg HO13.out HB13.out.size (Nat.le_refl _)); clear ho hg))
    go_ret2
    have HZ := Lib.hid (HB70.out.trans (HB9.out.mono HB70.out.size))
    exact ⟨_, rfl, by rw [HF2.out, HPY.out]; exact HO14.out.mono HZ.out.size, HZ.out.trans (HB14.out.mono HZ.out.size)⟩
set_option maxRecDepth 100000 in
set_option maxHeartbeats 1000000 in
theorem MemB_any (x : Ent) (w : World) (hx : x.Ok maxLen w) (hT : Pow10 w) :
    Calls Tryz.prog 12 #[x.val] w (RetM 5 w (memBytes x)) := by
  by_cases hE : entFault x = 0
  · rw [memBytes_ok hE]
    exact MemB_ok x w hx hE hT
  · rw [memBytes_bad hE]
    have HBX := Lib.hid ((Below.refl w.heap.size w).alloc (Nat.le_refl _) (.cells #[.string x.path, .int .i64 x.kind, .string x.target, .int .i64 x.mt.mode, .int .i64 x.mt.uid, .int .i64 x.mt.gid, .string x.mt.user, .string x.mt.group, .int .i64 x.mt.second, .int .i64 x.mt.nano, .slice x.da x.data.length x.dcap] 26))
    have HPR := Lib.hid (MemHead_any x _ (hx.below HBX.out) (hT.below HBX.out))
    rw [mHeadOf_bad hE] at HPR
    generalize entFault x = q at *
    generalize headZ = hz at *
    have hq : (q != 0) = true := by rw [bne_iff_ne]; exact hE
    clear hx hE hT
    go_enter Tryz.func12, Tryz.ntmps12
    go_wp2_with fail
    refine HPR.out.mono ?_
    rintro e w1 ⟨rfl, hb⟩
    have HB1 := Lib.hid (HBX.out.trans (hb.mono HBX.out.size))
    clear hb
    go_upto_region 2 with fail
    have HB2 := Lib.hid (HB1.out.alloc HB1.out.size (.cells #[.string hz.nm, .string hz.px, .string hz.lk, .int .i64 hz.mode, .int .i64 hz.uid, .int .i64 hz.gid, .int .i64 hz.size, .int .i64 hz.time, .int .u8 hz.typ.toNat, .string hz.user, .string hz.group] 62))
    go_wp2
    go_ret2
    exact ⟨_, rfl, OwnM.nil _ _ _, HB2.out⟩
open Go.Creel Go.RowKit
theorem maxOk_of (w : World) (h : w.ShapedOpen Tryz.prog) : MaxOk w := by
  have hc : ∃ m, w.cell? ⟨2, 0, none⟩ = some (.int .i64 m) :=
    Go.Proofs.cell_of_shapedOpen_int (zero := #[.int .i64 0]) (t := 3) h (of_decide_eq_true (by kernel_rfl)) (by kernel_rfl) rfl (by kernel_rfl) (by kernel_rfl) Tryz.underlying3
  refine ⟨?_, hc⟩
  obtain ⟨m, hm⟩ := hc
  rcases Nat.lt_or_ge 2 w.heap.size with h0 | h0
  · exact h0
  · unfold World.cell? at hm
    rw [Array.getElem?_eq_none (by simpa using h0)] at hm
    simp at hm
end Go.Proofs.YtaffgndickdbiaaGreatDoor
namespace Go.Creel
def dcells : Nat → DataW Unit → List Value
  | 0, _ => []
  | _ + 1, .lit (.int k n) => [.int k n]
  | m + 1, .agg ps => ps.flatMap (dcells m)
  | _ + 1, _ => []
def layAll (w : World) (l : List (Nat × DataW Unit)) : World :=
  { w with heap := l.foldl (fun h x => h.modify x.1 fun
    | .cells _ t fr => .cells (dcells 4 x.2).toArray t fr
    | o => o) w.heap }
end Go.Creel
