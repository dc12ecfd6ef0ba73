/-
  creelref.LineOf, walked.
-/
import Derived.Test.YtaffgndickdbiaaDoorLineL
import Derived.Test.YtaffgndickdbiaaDoorDayRef
namespace Go.Proofs.YtaffgndickdbiaaDoor
set_option linter.unusedVariables false
set_option linter.unusedSimpArgs false
open Go.Creel Go.RowKit
theorem wpAnyH_imp {P : Program} {ops : Array Oper} {Q : Exit → Act → World → Prop} {md : Region.Mode} {S S' : World → Prop} (h : ∀ w, S' w → S w) : ∀ (fuel : Nat) (listed : Array Bool) (a : Act) (w : World), wpAnyH P md ops Q S' fuel listed a w → wpAnyH P md ops Q S fuel listed a w
  | 0, _, _, _, H => H
  | fuel + 1, _, _, _, H => ⟨H.1, fun i hi => wpOp_mono (fun a' w' h' => ⟨h _ h'.1, wpAnyH_imp h fuel _ a' w' h'.2⟩) (H.2 i hi)⟩
theorem line_sums15 (y mm dd hh nn p s : Nat) (h1 : y ≤ 21) (h2 : mm ≤ 2) (h3 : dd ≤ 2) (h4 : hh ≤ 2) (h5 : nn ≤ 2) (h6 : p ≤ 400) (h7 : s ≤ 250) : ¬ 9223372036854775807 < 1 + y ∧ ¬ 9223372036854775807 < 1 + y + 1 ∧ ¬ 9223372036854775807 < 1 + y + 1 + mm ∧ ¬ 9223372036854775807 < 1 + y + 1 + mm + 1 ∧ ¬ 9223372036854775807 < 1 + y + 1 + mm + 1 + dd ∧ ¬ 9223372036854775807 < 1 + y + 1 + mm + 1 + dd + 1 ∧ ¬ 9223372036854775807 < 1 + y + 1 + mm + 1 + dd + 1 + hh ∧ ¬ 9223372036854775807 < 1 + y + 1 + mm + 1 + dd + 1 + hh + 1 ∧ ¬ 9223372036854775807 < 1 + y + 1 + mm + 1 + dd + 1 + hh + 1 + nn ∧ ¬ 9223372036854775807 < 1 + y + 1 + mm + 1 + dd + 1 + hh + 1 + nn + 1 ∧ ¬ 9223372036854775807 < 1 + y + 1 + mm + 1 + dd + 1 + hh + 1 + nn + 1 + p ∧ ¬ 9223372036854775807 < s + (1 + y + 1 + mm + 1 + dd + 1 + hh + 1 + nn + 1 + p) := by
  refine ⟨?_, ?_, ?_, ?_, ?_, ?_, ?_, ?_, ?_, ?_, ?_, ?_⟩ <;> omega
theorem lineA_size {x : Ent} (h : EntRight x) : (kindS x.kind ++ (modeText x.mt.mode).1 ++ (⟨#[32]⟩ : ByteArray) ++ whoS x.mt.user x.mt.uid ++ (⟨#[47]⟩ : ByteArray) ++ whoS x.mt.group x.mt.gid ++ (⟨#[32]⟩ : ByteArray) ++ itoaS (x.data.length : Int)).size ≤ 250 := by
  have h1 := kindS_size h.kind
  have h2 := modeText_size x.mt.mode
  have h3 := whoS_size (n := x.mt.uid) h.mt.user (by have := h.mt.uid; unfold i64; omega)
  have h4 := whoS_size (n := x.mt.gid) h.mt.group (by have := h.mt.gid; unfold i64; omega)
  have h5 := itoaS_size (n := (x.data.length : Int)) (by have := h.data; unfold i64; omega)
  simp only [ByteArray.size_append]
  have e1 : (⟨#[32]⟩ : ByteArray).size = 1 := rfl
  have e2 : (⟨#[47]⟩ : ByteArray).size = 1 := rfl
  omega
theorem lineB_parts (x : Ent) : (kindS x.kind ++ (modeText x.mt.mode).1 ++ (⟨#[32]⟩ : ByteArray) ++ whoS x.mt.user x.mt.uid ++ (⟨#[47]⟩ : ByteArray) ++ whoS x.mt.group x.mt.gid ++ (⟨#[32]⟩ : ByteArray) ++ itoaS (x.data.length : Int)) ++ ((⟨#[32]⟩ : ByteArray) ++ itoaS (dayOf x.mt.second).1 ++ (⟨#[45]⟩ : ByteArray) ++ twoI (dayOf x.mt.second).2.1 ++ (⟨#[45]⟩ : ByteArray) ++ twoI (dayOf x.mt.second).2.2.1 ++ (⟨#[32]⟩ : ByteArray) ++ twoI ((leftN x.mt.second : Int) / 3600) ++ (⟨#[58]⟩ : ByteArray) ++ twoI ((leftN x.mt.second : Int) / 60 % 60) ++ (⟨#[32]⟩ : ByteArray) ++ x.path) = lineB x := by
  unfold lineB
  simp only [ByteArray.append_assoc]
theorem line_sums14 (a b c d : Nat) (ha : a ≤ 9) (hb : b ≤ 60) (hc : c ≤ 60) (hd : d ≤ 21) : ¬ 9223372036854775807 < 1 + a ∧ ¬ 9223372036854775807 < 1 + a + 1 ∧ ¬ 9223372036854775807 < 1 + a + 1 + b ∧ ¬ 9223372036854775807 < 1 + a + 1 + b + 1 ∧ ¬ 9223372036854775807 < 1 + a + 1 + b + 1 + c ∧ ¬ 9223372036854775807 < 1 + a + 1 + b + 1 + c + 1 ∧ ¬ 9223372036854775807 < 1 + a + 1 + b + 1 + c + 1 + d := by
  refine ⟨?_, ?_, ?_, ?_, ?_, ?_, ?_⟩ <;> omega
set_option maxRecDepth 100000 in
set_option maxHeartbeats 4000000 in
theorem LineR_ok (x : Ent) (w : World) (hx : x.Ok maxLen w) (hE : entFault x = 0) (hT : Pow10 w) :
    Calls Tryd.prog 21 #[x.val] w fun e w' => e = .returned (.tuple #[.string (lineT x), .int .i64 0]) ∧ Below w.heap.size w w' := by
  have HR := Lib.hid (entRight hE)
  have HSZ := Lib.hid (lineB_size HR.out)
  have HBX := Lib.hid ((Below.refl w.heap.size w).alloc (Nat.le_refl _) (.cells #[.string x.path, .int .i64 x.kind, .string x.target, .int .i64 x.mt.mode, .int .i64 x.mt.uid, .int .i64 x.mt.gid, .string x.mt.user, .string x.mt.group, .int .i64 x.mt.second, .int .i64 x.mt.nano, .slice x.da x.data.length x.dcap] 40))
  have HEB := Lib.hid (entAt_box w x 40)
  have HPR := Lib.hid (fun W => EntryFault_any x W hx.path hx.target hx.mt (by obtain ⟨_, _, _, _, _, h, _⟩ := hx.data; exact h) hx.kind (Nat.le_refl _))
  rw [hE] at HPR
  have HP := Lib.hid (hT.below HBX.out)
  have hms : i64 x.mt.mode := by have := HR.out.mt.mode; unfold i64; omega
  have hss : i64 x.mt.second := by have := HR.out.mt.second; unfold i64; omega
  have hus : i64 x.mt.uid := by have := HR.out.mt.uid; unfold i64; omega
  have hgs : i64 x.mt.gid := by have := HR.out.mt.gid; unfold i64; omega
  have HMT := Lib.hid (fun w => RefMode_any x.mt.mode w hms)
  have HDY := Lib.hid (fun w => DayOf_any x.mt.second w hss)
  clear hx hE hT
  go_enter Tryd.func21, Tryd.ntmps21
  go_wp2_with fail
  refine (HPR.out _).mono ?_
  rintro e w1 ⟨rfl, hb⟩
  have HB1 := Lib.hid (HBX.out.trans (hb.mono HBX.out.size))
  have HE1 := Lib.hid (HEB.out.below hb)
  have HP1 := Lib.hid (HP.out.below hb)
  obtain ⟨h0, h1, h2, h3, h4, h5, h6, h7, h8, h9, h10⟩ := HE1.out.zero
  clear hb
  go_wp2_with fail
  refine (HMT.out _).mono ?_
  rintro e w5 ⟨rfl, hb⟩
  have HB5 := Lib.hid (HB1.out.trans (hb.mono HB1.out.size))
  have HE5 := Lib.hid (HE1.out.below hb)
  have HP5 := Lib.hid (HP1.out.below hb)
  clear hb HB1 HE1 HP1 HBX HEB HP
  clear h0 h1 h2 h3 h4 h5 h6 h7 h8 h9 h10
  obtain ⟨h0, h1, h2, h3, h4, h5, h6, h7, h8, h9, h10⟩ := HE5.out.zero
  go_upto_region 7 with fail
  go_cut [32] from 31 to 32 (fun u wx => ∃ q, u = .bool q ∧ Hid (q = decide (x.mt.user.size = 0)) ∧ wx = w5)
  case first =>
    by_cases h : x.mt.user.size = 0
    · have he := empty_t h
      have HZ := Lib.hid h
      clear h
      go_wp2
      go_meet
      exact ⟨true, rfl, Lib.hid (by simp [HZ.out]), rfl⟩
    · have he := empty_f h
      have HZ := Lib.hid h
      clear h
      go_wp2
      go_meet
      exact ⟨false, rfl, Lib.hid (by simp [HZ.out]), rfl⟩
  case rest =>
  obtain ⟨q8, rfl, HQ8, rfl⟩ := hcut
  obtain ⟨w5, rfl⟩ : ∃ W : World, W = wc := ⟨_, rfl⟩
  go_step
  go_cut [8, 32] from 33 to 36 (fun u v wx => u = .string (whoS x.mt.user x.mt.uid) ∧ v = .bool q8 ∧ Hid (Below w5.heap.size w5 wx))
  case first =>
    cases q8 with
    | true =>
      have HWT := Lib.hid (whoS_t (n := x.mt.uid) (of_decide_eq_true HQ8.out.symm))
      go_wp2_with fail
      refine (Itoa_any _ _ hus HP5.out).mono ?_
      rintro e w6 ⟨rfl, hb⟩
      have HBB := Lib.hid hb
      clear hb
      go_wp2
      go_meet
      exact ⟨by rw [HWT.out]; rfl, rfl, HBB⟩
    | false =>
      have HWT := Lib.hid (whoS_f (n := x.mt.uid) (of_decide_eq_false HQ8.out.symm))
      go_wp2
      go_meet
      exact ⟨by rw [HWT.out], rfl, Lib.hid (Below.refl _ _)⟩
  case rest =>
  obtain ⟨rfl, rfl, HBC⟩ := hcut
  have HB5' := Lib.hid (HB5.out.trans (HBC.out.mono HB5.out.size))
  have HE5' := Lib.hid (HE5.out.below HBC.out)
  have HP5' := Lib.hid (HP5.out.below HBC.out)
  clear HB5 HE5 HP5 HBC
  have HB5 := HB5'
  have HE5 := HE5'
  have HP5 := HP5'
  clear HB5' HE5' HP5'
  clear h0 h1 h2 h3 h4 h5 h6 h7 h8 h9 h10
  obtain ⟨w5, rfl⟩ : ∃ W : World, W = wc := ⟨_, rfl⟩
  obtain ⟨h0, h1, h2, h3, h4, h5, h6, h7, h8, h9, h10⟩ := HE5.out.zero
  go_upto_region 10 with fail
  go_cut [41] from 40 to 41 (fun u wx => ∃ q, u = .bool q ∧ Hid (q = decide (x.mt.group.size = 0)) ∧ wx = w5)
  case first =>
    by_cases h : x.mt.group.size = 0
    · have he := empty_t h
      have HZ := Lib.hid h
      clear h
      go_wp2
      go_meet
      exact ⟨true, rfl, Lib.hid (by simp [HZ.out]), rfl⟩
    · have he := empty_f h
      have HZ := Lib.hid h
      clear h
      go_wp2
      go_meet
      exact ⟨false, rfl, Lib.hid (by simp [HZ.out]), rfl⟩
  case rest =>
  obtain ⟨q9, rfl, HQ9, rfl⟩ := hcut
  obtain ⟨w5, rfl⟩ : ∃ W : World, W = wc := ⟨_, rfl⟩
  go_step
  go_cut [9, 41] from 42 to 45 (fun u v wx => u = .string (whoS x.mt.group x.mt.gid) ∧ v = .bool q9 ∧ Hid (Below w5.heap.size w5 wx))
  case first =>
    cases q9 with
    | true =>
      have HWT := Lib.hid (whoS_t (n := x.mt.gid) (of_decide_eq_true HQ9.out.symm))
      go_wp2_with fail
      refine (Itoa_any _ _ hgs HP5.out).mono ?_
      rintro e w6 ⟨rfl, hb⟩
      have HBB := Lib.hid hb
      clear hb
      go_wp2
      go_meet
      exact ⟨by rw [HWT.out]; rfl, rfl, HBB⟩
    | false =>
      have HWT := Lib.hid (whoS_f (n := x.mt.gid) (of_decide_eq_false HQ9.out.symm))
      go_wp2
      go_meet
      exact ⟨by rw [HWT.out], rfl, Lib.hid (Below.refl _ _)⟩
  case rest =>
  obtain ⟨rfl, rfl, HBC⟩ := hcut
  have HB5' := Lib.hid (HB5.out.trans (HBC.out.mono HB5.out.size))
  have HE5' := Lib.hid (HE5.out.below HBC.out)
  have HP5' := Lib.hid (HP5.out.below HBC.out)
  clear HB5 HE5 HP5 HBC
  have HB5 := HB5'
  have HE5 := HE5'
  have HP5 := HP5'
  clear HB5' HE5' HP5'
  clear h0 h1 h2 h3 h4 h5 h6 h7 h8 h9 h10
  obtain ⟨w5, rfl⟩ : ∃ W : World, W = wc := ⟨_, rfl⟩
  obtain ⟨h0, h1, h2, h3, h4, h5, h6, h7, h8, h9, h10⟩ := HE5.out.zero
  go_wp2_with fail
  refine (HDY.out _).mono ?_
  rintro e w6 ⟨rfl, hb⟩
  have HB6 := Lib.hid (HB5.out.trans (hb.mono HB5.out.size))
  have HE6 := Lib.hid (HE5.out.below hb)
  have HP6 := Lib.hid (HP5.out.below hb)
  clear hb
  clear h0 h1 h2 h3 h4 h5 h6 h7 h8 h9 h10
  obtain ⟨h0, h1, h2, h3, h4, h5, h6, h7, h8, h9, h10⟩ := HE6.out.zero
  go_upto_region 14 with fail
  have hlf : (wrap64 (x.mt.second.tmod 86400 + 86400)).tmod 86400 = (leftN x.mt.second : Int) := by
    obtain ⟨rr, hrr, hr1, hr2, hr3, hr4⟩ := tmod_left x.mt.second
    have hl := leftN_lt x.mt.second
    rw [hrr, show wrap64 (rr + 86400) = rr + 86400 by unfold wrap64; omega, Int.tmod_eq_emod_of_nonneg (by omega)]
    rcases Int.lt_or_le rr 0 with h | h
    · have := hr4 h; omega
    · have := hr3 h; omega
  rw [hlf]
  have hkk := HR.out.kind
  have hlt := leftN_lt x.mt.second
  generalize hlq : leftN x.mt.second = lf at *
  have hds : i64 (x.data.length : Int) := by have := HR.out.data; unfold i64; omega
  have HIT := Lib.hid (fun W (hB : Below w6.heap.size w6 W) => (Itoa_any (x.data.length : Int) W hds (HP6.out.below hB)).mono fun e w' hh => (show e = .returned (.string (itoaS (x.data.length : Int))) ∧ Below W.heap.size W w' from hh))
  go_cut [15] from 61 to 80 (fun u wx => u = .string (kindS x.kind ++ (modeText x.mt.mode).1 ++ (⟨#[32]⟩ : ByteArray) ++ whoS x.mt.user x.mt.uid ++ (⟨#[47]⟩ : ByteArray) ++ whoS x.mt.group x.mt.gid ++ (⟨#[32]⟩ : ByteArray) ++ itoaS (x.data.length : Int)) ∧ Hid (Below w6.heap.size w6 wx))
  case first =>
    have hpm := modeText_size x.mt.mode
    have hpu := whoS_size (n := x.mt.uid) HR.out.mt.user hus
    have hpg := whoS_size (n := x.mt.gid) HR.out.mt.group hgs
    have hpl := itoaS_size hds
    have hs14 := line_sums14 _ _ _ _ hpm hpu hpg hpl
    obtain ⟨p0, p1, p2, p3, p4, p5, p6⟩ := hs14
    have hk4 : x.kind = 1 ∨ x.kind = 2 ∨ x.kind = 3 ∨ x.kind = 4 := by omega
    have hdr := (Below.refl w6.heap.size w6).drew
    have HIT2 := Lib.hid (fun W (hB : Below w6.heap.size w6 W) => show Calls Tryd.prog 55 #[.int .i64 x.data.length] W (fun e w' => e = .returned (.string (itoaS (x.data.length : Int))) ∧ w'.cell? ⟨w.heap.size, 1, none⟩ = some (.int .i64 x.kind) ∧ w'.cell? ⟨w.heap.size, 10, none⟩ = some (.slice x.da x.data.length x.dcap) ∧ Below w6.heap.size w6 w' ∧ ∀ b o, b < W.heap.size → w'.cell? ⟨b, o, none⟩ = W.cell? ⟨b, o, none⟩) from
      (HIT.out W hB).mono fun e w' hh => by
        have hb2 := hB.trans (hh.2.mono hB.size)
        obtain ⟨a0, a1, a2, a3, a4, a5, a6, a7, a8, a9, a10⟩ := (HE6.out.below hb2).zero
        exact ⟨hh.1, a1, a10, hb2, (bcell hh.2).1⟩)
    clear hkk
    rcases hk4 with hk | hk | hk | hk
    · rw [hk] at h1 HIT2
      have HK := Lib.hid (show kindS x.kind = ⟨#[45]⟩ by rw [hk]; rfl)
      have hw1 : IntKind.i64.wrap ((1 : Int) - 1) = 0 := by rfl
      have hw0 : IntKind.i64.wrap 0 = 0 := by rfl
      clear hk
      have hA : Below w6.heap.size w6 (w6.alloc (.cells #[.string ⟨#[45]⟩, .string ⟨#[100]⟩, .string ⟨#[108]⟩, .string ⟨#[104]⟩] 9)).drew := ((Below.refl w6.heap.size w6).alloc (Nat.le_refl _) _).drew
      refine wp_region_noPanic ?_
      refine wp_region_held_drew (S := fun w' => w'.cell? ⟨w.heap.size, 1, none⟩ = some (.int .i64 1) ∧ w'.cell? ⟨w.heap.size, 10, none⟩ = some (.slice x.da x.data.length x.dcap) ∧ Below w6.heap.size w6 w') (by kernel_rfl) (by go_keep) (fun hHeld => ?_)
      refine wpAnyH_take (i := 1) (v := _) rfl (by kernel_rfl) (by kernel_rfl) (by kernel_rfl) (fun _ _ _ h => h) (Or.inl ⟨by rfl, fun w5 hSw => (by (try dsimp only at hSw); go_simp; try with_reducible rfl)⟩) hHeld ?_
      try simp only [List.getElem_toArray, List.getElem_cons_succ, List.getElem_cons_zero, Act.put, List.setIfInBounds_toArray, List.set_cons_zero, List.set_cons_succ]
      refine wpAnyH_take (i := 2) (v := _) rfl (by kernel_rfl) (by kernel_rfl) (by kernel_rfl) (fun _ _ _ h => h) (Or.inl ⟨by rfl, fun w5 hSw => (by (try dsimp only at hSw); go_simp; try with_reducible rfl)⟩) hHeld ?_
      try simp only [List.getElem_toArray, List.getElem_cons_succ, List.getElem_cons_zero, Act.put, List.setIfInBounds_toArray, List.set_cons_zero, List.set_cons_succ]
      refine wpAnyH_take (i := 3) (v := _) rfl (by kernel_rfl) (by kernel_rfl) (by kernel_rfl) (fun _ _ _ h => h) (Or.inl ⟨by rfl, fun w5 hSw => (by (try dsimp only at hSw); go_simp; try with_reducible rfl)⟩) hHeld ?_
      try simp only [List.getElem_toArray, List.getElem_cons_succ, List.getElem_cons_zero, Act.put, List.setIfInBounds_toArray, List.set_cons_zero, List.set_cons_succ]
      refine wpAnyH_take (i := 6) (v := _) rfl (by kernel_rfl) (by kernel_rfl) (by kernel_rfl) (fun _ _ _ h => h) (Or.inl ⟨by rfl, fun w5 hSw => (by (try dsimp only at hSw); go_simp; try with_reducible rfl)⟩) hHeld ?_
      try simp only [List.getElem_toArray, List.getElem_cons_succ, List.getElem_cons_zero, Act.put, List.setIfInBounds_toArray, List.set_cons_zero, List.set_cons_succ]
      refine wpAnyH_take (i := 9) (v := _) rfl (by kernel_rfl) (by kernel_rfl) (by kernel_rfl) (fun _ _ _ h => h) (Or.inl ⟨by rfl, fun w5 hSw => (by (try dsimp only at hSw); go_simp; try with_reducible rfl)⟩) hHeld ?_
      try simp only [List.getElem_toArray, List.getElem_cons_succ, List.getElem_cons_zero, Act.put, List.setIfInBounds_toArray, List.set_cons_zero, List.set_cons_succ]
      refine wpAnyH_take (i := 12) (v := _) rfl (by kernel_rfl) (by kernel_rfl) (by kernel_rfl) (fun _ _ _ h => h) (Or.inl ⟨by rfl, fun w5 hSw => (by (try dsimp only at hSw); go_simp; try with_reducible rfl)⟩) hHeld ?_
      try simp only [List.getElem_toArray, List.getElem_cons_succ, List.getElem_cons_zero, Act.put, List.setIfInBounds_toArray, List.set_cons_zero, List.set_cons_succ]
      refine wpAnyH_take (i := 15) (v := _) rfl (by kernel_rfl) (by kernel_rfl) (by kernel_rfl) (fun _ _ _ h => h) (Or.inl ⟨by rfl, fun w5 hSw => (by (try dsimp only at hSw); go_simp; try with_reducible rfl)⟩) hHeld ?_
      try simp only [List.getElem_toArray, List.getElem_cons_succ, List.getElem_cons_zero, Act.put, List.setIfInBounds_toArray, List.set_cons_zero, List.set_cons_succ]
      refine wpAnyH_take (i := 16) (v := _) rfl (by kernel_rfl) (by kernel_rfl) (by kernel_rfl) (fun _ _ _ h => h) (Or.inl ⟨by rfl, fun w5 hSw => (by (try dsimp only at hSw); go_simp; try with_reducible rfl)⟩) hHeld ?_
      try simp only [List.getElem_toArray, List.getElem_cons_succ, List.getElem_cons_zero, Act.put, List.setIfInBounds_toArray, List.set_cons_zero, List.set_cons_succ]
      refine wpAnyH_take (i := 17) (v := _) rfl (by kernel_rfl) (by kernel_rfl) (by kernel_rfl) (fun _ _ _ h => h) (Or.inl ⟨by rfl, fun w5 hSw => (by (try dsimp only at hSw); go_simp; try with_reducible rfl)⟩) hHeld ?_
      try simp only [List.getElem_toArray, List.getElem_cons_succ, List.getElem_cons_zero, Act.put, List.setIfInBounds_toArray, List.set_cons_zero, List.set_cons_succ]
      refine wpAnyH_ready (rs := [0, 18]) (by kernel_rfl) (by simp) ?_
      refine AllReadyH.cons rfl (fun K5 hK5 => ?_) (AllReadyH.cons rfl (fun K5 hK5 => ?_) AllReadyH.nil)
      · go_simp
        refine hK5.out _ _ (by go_keep) (fun hHeld2 => ?_)
        clear hK5 K5
        try simp only [List.getElem_toArray, List.getElem_cons_succ, List.getElem_cons_zero, Act.put, List.setIfInBounds_toArray, List.set_cons_zero, List.set_cons_succ]
        refine wpAnyH_take (i := 4) (v := _) rfl (by kernel_rfl) (by kernel_rfl) (by kernel_rfl) (fun _ _ _ h => h) (Or.inl ⟨by rfl, fun w5 hSw => (by (try dsimp only at hSw); go_simp; try with_reducible rfl)⟩) hHeld2 ?_
        try simp only [List.getElem_toArray, List.getElem_cons_succ, List.getElem_cons_zero, Act.put, List.setIfInBounds_toArray, List.set_cons_zero, List.set_cons_succ]
        refine wpAnyH_imp (S' := fun w' => (w'.cell? ⟨w.heap.size, 1, none⟩ = some (.int .i64 1) ∧ w'.cell? ⟨w.heap.size, 10, none⟩ = some (.slice x.da x.data.length x.dcap) ∧ Below w6.heap.size w6 w') ∧ w'.cell? ⟨w6.heap.size, 0, none⟩ = some (.string ⟨#[45]⟩)) (fun _ h => h.1) _ _ _ _ ?_
        have hHeld3 : ((w6.alloc (.cells #[.string ⟨#[45]⟩, .string ⟨#[100]⟩, .string ⟨#[108]⟩, .string ⟨#[104]⟩] 9)).drew.cell? ⟨w.heap.size, 1, none⟩ = some (.int .i64 1) ∧ (w6.alloc (.cells #[.string ⟨#[45]⟩, .string ⟨#[100]⟩, .string ⟨#[108]⟩, .string ⟨#[104]⟩] 9)).drew.cell? ⟨w.heap.size, 10, none⟩ = some (.slice x.da x.data.length x.dcap) ∧ Below w6.heap.size w6 (w6.alloc (.cells #[.string ⟨#[45]⟩, .string ⟨#[100]⟩, .string ⟨#[108]⟩, .string ⟨#[104]⟩] 9)).drew) ∧ (w6.alloc (.cells #[.string ⟨#[45]⟩, .string ⟨#[100]⟩, .string ⟨#[108]⟩, .string ⟨#[104]⟩] 9)).drew.cell? ⟨w6.heap.size, 0, none⟩ = some (.string ⟨#[45]⟩) := ⟨hHeld2, by simp⟩
        refine wpAnyH_take (i := 5) (v := _) rfl (by kernel_rfl) (by kernel_rfl) (by kernel_rfl) (fun _ _ _ h => h) (Or.inl ⟨by rfl, fun w5 hSw => (by (try dsimp only at hSw); go_simp; try with_reducible rfl)⟩) hHeld3 ?_
        try simp only [List.getElem_toArray, List.getElem_cons_succ, List.getElem_cons_zero, Act.put, List.setIfInBounds_toArray, List.set_cons_zero, List.set_cons_succ]
        refine wpAnyH_take (i := 7) (v := _) rfl (by kernel_rfl) (by kernel_rfl) (by kernel_rfl) (fun _ _ _ h => h) (Or.inl ⟨by rfl, fun w5 hSw => (by (try dsimp only at hSw); go_simp; try with_reducible rfl)⟩) hHeld3 ?_
        try simp only [List.getElem_toArray, List.getElem_cons_succ, List.getElem_cons_zero, Act.put, List.setIfInBounds_toArray, List.set_cons_zero, List.set_cons_succ]
        refine wpAnyH_take (i := 8) (v := _) rfl (by kernel_rfl) (by kernel_rfl) (by kernel_rfl) (fun _ _ _ h => h) (Or.inl ⟨by rfl, fun w5 hSw => (by (try dsimp only at hSw); go_simp; try with_reducible rfl)⟩) hHeld3 ?_
        try simp only [List.getElem_toArray, List.getElem_cons_succ, List.getElem_cons_zero, Act.put, List.setIfInBounds_toArray, List.set_cons_zero, List.set_cons_succ]
        refine wpAnyH_take (i := 10) (v := _) rfl (by kernel_rfl) (by kernel_rfl) (by kernel_rfl) (fun _ _ _ h => h) (Or.inl ⟨by rfl, fun w5 hSw => (by (try dsimp only at hSw); go_simp; try with_reducible rfl)⟩) hHeld3 ?_
        try simp only [List.getElem_toArray, List.getElem_cons_succ, List.getElem_cons_zero, Act.put, List.setIfInBounds_toArray, List.set_cons_zero, List.set_cons_succ]
        refine wpAnyH_take (i := 11) (v := _) rfl (by kernel_rfl) (by kernel_rfl) (by kernel_rfl) (fun _ _ _ h => h) (Or.inl ⟨by rfl, fun w5 hSw => (by (try dsimp only at hSw); go_simp; try with_reducible rfl)⟩) hHeld3 ?_
        try simp only [List.getElem_toArray, List.getElem_cons_succ, List.getElem_cons_zero, Act.put, List.setIfInBounds_toArray, List.set_cons_zero, List.set_cons_succ]
        refine wpAnyH_take (i := 13) (v := _) rfl (by kernel_rfl) (by kernel_rfl) (by kernel_rfl) (fun _ _ _ h => h) (Or.inl ⟨by rfl, fun w5 hSw => (by (try dsimp only at hSw); go_simp; try with_reducible rfl)⟩) hHeld3 ?_
        try simp only [List.getElem_toArray, List.getElem_cons_succ, List.getElem_cons_zero, Act.put, List.setIfInBounds_toArray, List.set_cons_zero, List.set_cons_succ]
        refine wpAnyH_take (i := 14) (v := _) rfl (by kernel_rfl) (by kernel_rfl) (by kernel_rfl) (fun _ _ _ h => h) (Or.inl ⟨by rfl, fun w5 hSw => (by (try dsimp only at hSw); go_simp; try with_reducible rfl)⟩) hHeld3 ?_
        try simp only [List.getElem_toArray, List.getElem_cons_succ, List.getElem_cons_zero, Act.put, List.setIfInBounds_toArray, List.set_cons_zero, List.set_cons_succ]
        refine wpAnyH_ready (rs := [18]) (by kernel_rfl) (by simp) ?_
        refine AllReadyH.cons rfl (fun K5 hK5 => ?_) AllReadyH.nil
        rw [if_pos (by rfl)]
        go_wp2_with (go_at_call 55; refine (HIT2.out _ (by simp [*])).mono ?_; rintro e w8 ⟨rfl, r1, r10, hb8, hcr⟩)
        have hc8 : w8.cell? ⟨w6.heap.size, 0, none⟩ = some (.string ⟨#[45]⟩) := (hcr _ _ (by simp)).trans hHeld3.2
        refine hK5.out _ _ ⟨⟨r1, r10, hb8⟩, hc8⟩ (fun hHeld4 => ?_)
        clear hK5 K5
        try simp only [List.getElem_toArray, List.getElem_cons_succ, List.getElem_cons_zero, Act.put, List.setIfInBounds_toArray, List.set_cons_zero, List.set_cons_succ]
        refine wpAnyH_take (i := 19) (v := _) rfl (by kernel_rfl) (by kernel_rfl) (by kernel_rfl) (fun _ _ _ h => h) (Or.inl ⟨by rfl, fun w5 hSw => (by (try dsimp only at hSw); go_simp; try with_reducible rfl)⟩) hHeld4 ?_
        try simp only [List.getElem_toArray, List.getElem_cons_succ, List.getElem_cons_zero, Act.put, List.setIfInBounds_toArray, List.set_cons_zero, List.set_cons_succ]
        refine wpAnyH_take (i := 20) (v := _) rfl (by kernel_rfl) (by kernel_rfl) (by kernel_rfl) (fun _ _ _ h => h) (Or.inl ⟨by rfl, fun w5 hSw => (by (try dsimp only at hSw); go_simp; try with_reducible rfl)⟩) hHeld4 ?_
        try simp only [List.getElem_toArray, List.getElem_cons_succ, List.getElem_cons_zero, Act.put, List.setIfInBounds_toArray, List.set_cons_zero, List.set_cons_succ]
        refine wpAnyH_done (by kernel_rfl) ?_ _
        refine NoPanic.normal ?_
        go_wp2_with fail
        go_meet
        case rel => exact ⟨by rw [HK.out], Lib.hid hb8⟩
      · rw [if_pos (by rfl)]
        go_wp2_with (go_at_call 55; refine (HIT2.out _ (by simp [*])).mono ?_; rintro e w8 ⟨rfl, r1, r10, hb8, hcr⟩)
        refine hK5.out _ _ ⟨r1, r10, hb8⟩ (fun hHeld2 => ?_)
        clear hK5 K5
        try simp only [List.getElem_toArray, List.getElem_cons_succ, List.getElem_cons_zero, Act.put, List.setIfInBounds_toArray, List.set_cons_zero, List.set_cons_succ]
        refine wpAnyH_ready (rs := [0]) (by kernel_rfl) (by simp) ?_
        refine AllReadyH.cons rfl (fun K5 hK5 => ?_) AllReadyH.nil
        go_simp
        have hb9 := hb8.alloc hb8.size (.cells #[.string ⟨#[45]⟩, .string ⟨#[100]⟩, .string ⟨#[108]⟩, .string ⟨#[104]⟩] 9)
        refine hK5.out _ _ (by go_keep) (fun hHeld3 => ?_)
        clear hK5 K5
        try simp only [List.getElem_toArray, List.getElem_cons_succ, List.getElem_cons_zero, Act.put, List.setIfInBounds_toArray, List.set_cons_zero, List.set_cons_succ]
        refine wpAnyH_take (i := 4) (v := _) rfl (by kernel_rfl) (by kernel_rfl) (by kernel_rfl) (fun _ _ _ h => h) (Or.inl ⟨by rfl, fun w5 hSw => (by (try dsimp only at hSw); go_simp; try with_reducible rfl)⟩) hHeld3 ?_
        try simp only [List.getElem_toArray, List.getElem_cons_succ, List.getElem_cons_zero, Act.put, List.setIfInBounds_toArray, List.set_cons_zero, List.set_cons_succ]
        refine wpAnyH_imp (S' := fun w' => (w'.cell? ⟨w.heap.size, 1, none⟩ = some (.int .i64 1) ∧ w'.cell? ⟨w.heap.size, 10, none⟩ = some (.slice x.da x.data.length x.dcap) ∧ Below w6.heap.size w6 w') ∧ w'.cell? ⟨w8.heap.size, 0, none⟩ = some (.string ⟨#[45]⟩)) (fun _ h => h.1) _ _ _ _ ?_
        have hHeld4 : ((w8.alloc (.cells #[.string ⟨#[45]⟩, .string ⟨#[100]⟩, .string ⟨#[108]⟩, .string ⟨#[104]⟩] 9)).cell? ⟨w.heap.size, 1, none⟩ = some (.int .i64 1) ∧ (w8.alloc (.cells #[.string ⟨#[45]⟩, .string ⟨#[100]⟩, .string ⟨#[108]⟩, .string ⟨#[104]⟩] 9)).cell? ⟨w.heap.size, 10, none⟩ = some (.slice x.da x.data.length x.dcap) ∧ Below w6.heap.size w6 (w8.alloc (.cells #[.string ⟨#[45]⟩, .string ⟨#[100]⟩, .string ⟨#[108]⟩, .string ⟨#[104]⟩] 9))) ∧ (w8.alloc (.cells #[.string ⟨#[45]⟩, .string ⟨#[100]⟩, .string ⟨#[108]⟩, .string ⟨#[104]⟩] 9)).cell? ⟨w8.heap.size, 0, none⟩ = some (.string ⟨#[45]⟩) := ⟨hHeld3, by simp⟩
        refine wpAnyH_take (i := 5) (v := _) rfl (by kernel_rfl) (by kernel_rfl) (by kernel_rfl) (fun _ _ _ h => h) (Or.inl ⟨by rfl, fun w5 hSw => (by (try dsimp only at hSw); go_simp; try with_reducible rfl)⟩) hHeld4 ?_
        try simp only [List.getElem_toArray, List.getElem_cons_succ, List.getElem_cons_zero, Act.put, List.setIfInBounds_toArray, List.set_cons_zero, List.set_cons_succ]
        refine wpAnyH_take (i := 7) (v := _) rfl (by kernel_rfl) (by kernel_rfl) (by kernel_rfl) (fun _ _ _ h => h) (Or.inl ⟨by rfl, fun w5 hSw => (by (try dsimp only at hSw); go_simp; try with_reducible rfl)⟩) hHeld4 ?_
        try simp only [List.getElem_toArray, List.getElem_cons_succ, List.getElem_cons_zero, Act.put, List.setIfInBounds_toArray, List.set_cons_zero, List.set_cons_succ]
        refine wpAnyH_take (i := 8) (v := _) rfl (by kernel_rfl) (by kernel_rfl) (by kernel_rfl) (fun _ _ _ h => h) (Or.inl ⟨by rfl, fun w5 hSw => (by (try dsimp only at hSw); go_simp; try with_reducible rfl)⟩) hHeld4 ?_
        try simp only [List.getElem_toArray, List.getElem_cons_succ, List.getElem_cons_zero, Act.put, List.setIfInBounds_toArray, List.set_cons_zero, List.set_cons_succ]
        refine wpAnyH_take (i := 10) (v := _) rfl (by kernel_rfl) (by kernel_rfl) (by kernel_rfl) (fun _ _ _ h => h) (Or.inl ⟨by rfl, fun w5 hSw => (by (try dsimp only at hSw); go_simp; try with_reducible rfl)⟩) hHeld4 ?_
        try simp only [List.getElem_toArray, List.getElem_cons_succ, List.getElem_cons_zero, Act.put, List.setIfInBounds_toArray, List.set_cons_zero, List.set_cons_succ]
        refine wpAnyH_take (i := 11) (v := _) rfl (by kernel_rfl) (by kernel_rfl) (by kernel_rfl) (fun _ _ _ h => h) (Or.inl ⟨by rfl, fun w5 hSw => (by (try dsimp only at hSw); go_simp; try with_reducible rfl)⟩) hHeld4 ?_
        try simp only [List.getElem_toArray, List.getElem_cons_succ, List.getElem_cons_zero, Act.put, List.setIfInBounds_toArray, List.set_cons_zero, List.set_cons_succ]
        refine wpAnyH_take (i := 13) (v := _) rfl (by kernel_rfl) (by kernel_rfl) (by kernel_rfl) (fun _ _ _ h => h) (Or.inl ⟨by rfl, fun w5 hSw => (by (try dsimp only at hSw); go_simp; try with_reducible rfl)⟩) hHeld4 ?_
        try simp only [List.getElem_toArray, List.getElem_cons_succ, List.getElem_cons_zero, Act.put, List.setIfInBounds_toArray, List.set_cons_zero, List.set_cons_succ]
        refine wpAnyH_take (i := 14) (v := _) rfl (by kernel_rfl) (by kernel_rfl) (by kernel_rfl) (fun _ _ _ h => h) (Or.inl ⟨by rfl, fun w5 hSw => (by (try dsimp only at hSw); go_simp; try with_reducible rfl)⟩) hHeld4 ?_
        try simp only [List.getElem_toArray, List.getElem_cons_succ, List.getElem_cons_zero, Act.put, List.setIfInBounds_toArray, List.set_cons_zero, List.set_cons_succ]
        refine wpAnyH_take (i := 19) (v := _) rfl (by kernel_rfl) (by kernel_rfl) (by kernel_rfl) (fun _ _ _ h => h) (Or.inl ⟨by rfl, fun w5 hSw => (by (try dsimp only at hSw); go_simp; try with_reducible rfl)⟩) hHeld4 ?_
        try simp only [List.getElem_toArray, List.getElem_cons_succ, List.getElem_cons_zero, Act.put, List.setIfInBounds_toArray, List.set_cons_zero, List.set_cons_succ]
        refine wpAnyH_take (i := 20) (v := _) rfl (by kernel_rfl) (by kernel_rfl) (by kernel_rfl) (fun _ _ _ h => h) (Or.inl ⟨by rfl, fun w5 hSw => (by (try dsimp only at hSw); go_simp; try with_reducible rfl)⟩) hHeld4 ?_
        try simp only [List.getElem_toArray, List.getElem_cons_succ, List.getElem_cons_zero, Act.put, List.setIfInBounds_toArray, List.set_cons_zero, List.set_cons_succ]
        refine wpAnyH_done (by kernel_rfl) ?_ _
        refine NoPanic.normal ?_
        go_wp2_with fail
        go_meet
        case rel => exact ⟨by rw [HK.out], Lib.hid hb9⟩
    · rw [hk] at h1 HIT2
      have HK := Lib.hid (show kindS x.kind = ⟨#[100]⟩ by rw [hk]; rfl)
      have hw1 : IntKind.i64.wrap ((2 : Int) - 1) = 1 := by rfl
      have hw0 : IntKind.i64.wrap 1 = 1 := by rfl
      clear hk
      have hA : Below w6.heap.size w6 (w6.alloc (.cells #[.string ⟨#[45]⟩, .string ⟨#[100]⟩, .string ⟨#[108]⟩, .string ⟨#[104]⟩] 9)).drew := ((Below.refl w6.heap.size w6).alloc (Nat.le_refl _) _).drew
      refine wp_region_noPanic ?_
      refine wp_region_held_drew (S := fun w' => w'.cell? ⟨w.heap.size, 1, none⟩ = some (.int .i64 2) ∧ w'.cell? ⟨w.heap.size, 10, none⟩ = some (.slice x.da x.data.length x.dcap) ∧ Below w6.heap.size w6 w') (by kernel_rfl) (by go_keep) (fun hHeld => ?_)
      refine wpAnyH_take (i := 1) (v := _) rfl (by kernel_rfl) (by kernel_rfl) (by kernel_rfl) (fun _ _ _ h => h) (Or.inl ⟨by rfl, fun w5 hSw => (by (try dsimp only at hSw); go_simp; try with_reducible rfl)⟩) hHeld ?_
      try simp only [List.getElem_toArray, List.getElem_cons_succ, List.getElem_cons_zero, Act.put, List.setIfInBounds_toArray, List.set_cons_zero, List.set_cons_succ]
      refine wpAnyH_take (i := 2) (v := _) rfl (by kernel_rfl) (by kernel_rfl) (by kernel_rfl) (fun _ _ _ h => h) (Or.inl ⟨by rfl, fun w5 hSw => (by (try dsimp only at hSw); go_simp; try with_reducible rfl)⟩) hHeld ?_
      try simp only [List.getElem_toArray, List.getElem_cons_succ, List.getElem_cons_zero, Act.put, List.setIfInBounds_toArray, List.set_cons_zero, List.set_cons_succ]
      refine wpAnyH_take (i := 3) (v := _) rfl (by kernel_rfl) (by kernel_rfl) (by kernel_rfl) (fun _ _ _ h => h) (Or.inl ⟨by rfl, fun w5 hSw => (by (try dsimp only at hSw); go_simp; try with_reducible rfl)⟩) hHeld ?_
      try simp only [List.getElem_toArray, List.getElem_cons_succ, List.getElem_cons_zero, Act.put, List.setIfInBounds_toArray, List.set_cons_zero, List.set_cons_succ]
      refine wpAnyH_take (i := 6) (v := _) rfl (by kernel_rfl) (by kernel_rfl) (by kernel_rfl) (fun _ _ _ h => h) (Or.inl ⟨by rfl, fun w5 hSw => (by (try dsimp only at hSw); go_simp; try with_reducible rfl)⟩) hHeld ?_
      try simp only [List.getElem_toArray, List.getElem_cons_succ, List.getElem_cons_zero, Act.put, List.setIfInBounds_toArray, List.set_cons_zero, List.set_cons_succ]
      refine wpAnyH_take (i := 9) (v := _) rfl (by kernel_rfl) (by kernel_rfl) (by kernel_rfl) (fun _ _ _ h => h) (Or.inl ⟨by rfl, fun w5 hSw => (by (try dsimp only at hSw); go_simp; try with_reducible rfl)⟩) hHeld ?_
      try simp only [List.getElem_toArray, List.getElem_cons_succ, List.getElem_cons_zero, Act.put, List.setIfInBounds_toArray, List.set_cons_zero, List.set_cons_succ]
      refine wpAnyH_take (i := 12) (v := _) rfl (by kernel_rfl) (by kernel_rfl) (by kernel_rfl) (fun _ _ _ h => h) (Or.inl ⟨by rfl, fun w5 hSw => (by (try dsimp only at hSw); go_simp; try with_reducible rfl)⟩) hHeld ?_
      try simp only [List.getElem_toArray, List.getElem_cons_succ, List.getElem_cons_zero, Act.put, List.setIfInBounds_toArray, List.set_cons_zero, List.set_cons_succ]
      refine wpAnyH_take (i := 15) (v := _) rfl (by kernel_rfl) (by kernel_rfl) (by kernel_rfl) (fun _ _ _ h => h) (Or.inl ⟨by rfl, fun w5 hSw => (by (try dsimp only at hSw); go_simp; try with_reducible rfl)⟩) hHeld ?_
      try simp only [List.getElem_toArray, List.getElem_cons_succ, List.getElem_cons_zero, Act.put, List.setIfInBounds_toArray, List.set_cons_zero, List.set_cons_succ]
      refine wpAnyH_take (i := 16) (v := _) rfl (by kernel_rfl) (by kernel_rfl) (by kernel_rfl) (fun _ _ _ h => h) (Or.inl ⟨by rfl, fun w5 hSw => (by (try dsimp only at hSw); go_simp; try with_reducible rfl)⟩) hHeld ?_
      try simp only [List.getElem_toArray, List.getElem_cons_succ, List.getElem_cons_zero, Act.put, List.setIfInBounds_toArray, List.set_cons_zero, List.set_cons_succ]
      refine wpAnyH_take (i := 17) (v := _) rfl (by kernel_rfl) (by kernel_rfl) (by kernel_rfl) (fun _ _ _ h => h) (Or.inl ⟨by rfl, fun w5 hSw => (by (try dsimp only at hSw); go_simp; try with_reducible rfl)⟩) hHeld ?_
      try simp only [List.getElem_toArray, List.getElem_cons_succ, List.getElem_cons_zero, Act.put, List.setIfInBounds_toArray, List.set_cons_zero, List.set_cons_succ]
      refine wpAnyH_ready (rs := [0, 18]) (by kernel_rfl) (by simp) ?_
      refine AllReadyH.cons rfl (fun K5 hK5 => ?_) (AllReadyH.cons rfl (fun K5 hK5 => ?_) AllReadyH.nil)
      · go_simp
        refine hK5.out _ _ (by go_keep) (fun hHeld2 => ?_)
        clear hK5 K5
        try simp only [List.getElem_toArray, List.getElem_cons_succ, List.getElem_cons_zero, Act.put, List.setIfInBounds_toArray, List.set_cons_zero, List.set_cons_succ]
        refine wpAnyH_take (i := 4) (v := _) rfl (by kernel_rfl) (by kernel_rfl) (by kernel_rfl) (fun _ _ _ h => h) (Or.inl ⟨by rfl, fun w5 hSw => (by (try dsimp only at hSw); go_simp; try with_reducible rfl)⟩) hHeld2 ?_
        try simp only [List.getElem_toArray, List.getElem_cons_succ, List.getElem_cons_zero, Act.put, List.setIfInBounds_toArray, List.set_cons_zero, List.set_cons_succ]
        refine wpAnyH_imp (S' := fun w' => (w'.cell? ⟨w.heap.size, 1, none⟩ = some (.int .i64 2) ∧ w'.cell? ⟨w.heap.size, 10, none⟩ = some (.slice x.da x.data.length x.dcap) ∧ Below w6.heap.size w6 w') ∧ w'.cell? ⟨w6.heap.size, 1, none⟩ = some (.string ⟨#[100]⟩)) (fun _ h => h.1) _ _ _ _ ?_
        have hHeld3 : ((w6.alloc (.cells #[.string ⟨#[45]⟩, .string ⟨#[100]⟩, .string ⟨#[108]⟩, .string ⟨#[104]⟩] 9)).drew.cell? ⟨w.heap.size, 1, none⟩ = some (.int .i64 2) ∧ (w6.alloc (.cells #[.string ⟨#[45]⟩, .string ⟨#[100]⟩, .string ⟨#[108]⟩, .string ⟨#[104]⟩] 9)).drew.cell? ⟨w.heap.size, 10, none⟩ = some (.slice x.da x.data.length x.dcap) ∧ Below w6.heap.size w6 (w6.alloc (.cells #[.string ⟨#[45]⟩, .string ⟨#[100]⟩, .string ⟨#[108]⟩, .string ⟨#[104]⟩] 9)).drew) ∧ (w6.alloc (.cells #[.string ⟨#[45]⟩, .string ⟨#[100]⟩, .string ⟨#[108]⟩, .string ⟨#[104]⟩] 9)).drew.cell? ⟨w6.heap.size, 1, none⟩ = some (.string ⟨#[100]⟩) := ⟨hHeld2, by simp⟩
        refine wpAnyH_take (i := 5) (v := _) rfl (by kernel_rfl) (by kernel_rfl) (by kernel_rfl) (fun _ _ _ h => h) (Or.inl ⟨by rfl, fun w5 hSw => (by (try dsimp only at hSw); go_simp; try with_reducible rfl)⟩) hHeld3 ?_
        try simp only [List.getElem_toArray, List.getElem_cons_succ, List.getElem_cons_zero, Act.put, List.setIfInBounds_toArray, List.set_cons_zero, List.set_cons_succ]
        refine wpAnyH_take (i := 7) (v := _) rfl (by kernel_rfl) (by kernel_rfl) (by kernel_rfl) (fun _ _ _ h => h) (Or.inl ⟨by rfl, fun w5 hSw => (by (try dsimp only at hSw); go_simp; try with_reducible rfl)⟩) hHeld3 ?_
        try simp only [List.getElem_toArray, List.getElem_cons_succ, List.getElem_cons_zero, Act.put, List.setIfInBounds_toArray, List.set_cons_zero, List.set_cons_succ]
        refine wpAnyH_take (i := 8) (v := _) rfl (by kernel_rfl) (by kernel_rfl) (by kernel_rfl) (fun _ _ _ h => h) (Or.inl ⟨by rfl, fun w5 hSw => (by (try dsimp only at hSw); go_simp; try with_reducible rfl)⟩) hHeld3 ?_
        try simp only [List.getElem_toArray, List.getElem_cons_succ, List.getElem_cons_zero, Act.put, List.setIfInBounds_toArray, List.set_cons_zero, List.set_cons_succ]
        refine wpAnyH_take (i := 10) (v := _) rfl (by kernel_rfl) (by kernel_rfl) (by kernel_rfl) (fun _ _ _ h => h) (Or.inl ⟨by rfl, fun w5 hSw => (by (try dsimp only at hSw); go_simp; try with_reducible rfl)⟩) hHeld3 ?_
        try simp only [List.getElem_toArray, List.getElem_cons_succ, List.getElem_cons_zero, Act.put, List.setIfInBounds_toArray, List.set_cons_zero, List.set_cons_succ]
        refine wpAnyH_take (i := 11) (v := _) rfl (by kernel_rfl) (by kernel_rfl) (by kernel_rfl) (fun _ _ _ h => h) (Or.inl ⟨by rfl, fun w5 hSw => (by (try dsimp only at hSw); go_simp; try with_reducible rfl)⟩) hHeld3 ?_
        try simp only [List.getElem_toArray, List.getElem_cons_succ, List.getElem_cons_zero, Act.put, List.setIfInBounds_toArray, List.set_cons_zero, List.set_cons_succ]
        refine wpAnyH_take (i := 13) (v := _) rfl (by kernel_rfl) (by kernel_rfl) (by kernel_rfl) (fun _ _ _ h => h) (Or.inl ⟨by rfl, fun w5 hSw => (by (try dsimp only at hSw); go_simp; try with_reducible rfl)⟩) hHeld3 ?_
        try simp only [List.getElem_toArray, List.getElem_cons_succ, List.getElem_cons_zero, Act.put, List.setIfInBounds_toArray, List.set_cons_zero, List.set_cons_succ]
        refine wpAnyH_take (i := 14) (v := _) rfl (by kernel_rfl) (by kernel_rfl) (by kernel_rfl) (fun _ _ _ h => h) (Or.inl ⟨by rfl, fun w5 hSw => (by (try dsimp only at hSw); go_simp; try with_reducible rfl)⟩) hHeld3 ?_
        try simp only [List.getElem_toArray, List.getElem_cons_succ, List.getElem_cons_zero, Act.put, List.setIfInBounds_toArray, List.set_cons_zero, List.set_cons_succ]
        refine wpAnyH_ready (rs := [18]) (by kernel_rfl) (by simp) ?_
        refine AllReadyH.cons rfl (fun K5 hK5 => ?_) AllReadyH.nil
        rw [if_pos (by rfl)]
        go_wp2_with (go_at_call 55; refine (HIT2.out _ (by simp [*])).mono ?_; rintro e w8 ⟨rfl, r1, r10, hb8, hcr⟩)
        have hc8 : w8.cell? ⟨w6.heap.size, 1, none⟩ = some (.string ⟨#[100]⟩) := (hcr _ _ (by simp)).trans hHeld3.2
        refine hK5.out _ _ ⟨⟨r1, r10, hb8⟩, hc8⟩ (fun hHeld4 => ?_)
        clear hK5 K5
        try simp only [List.getElem_toArray, List.getElem_cons_succ, List.getElem_cons_zero, Act.put, List.setIfInBounds_toArray, List.set_cons_zero, List.set_cons_succ]
        refine wpAnyH_take (i := 19) (v := _) rfl (by kernel_rfl) (by kernel_rfl) (by kernel_rfl) (fun _ _ _ h => h) (Or.inl ⟨by rfl, fun w5 hSw => (by (try dsimp only at hSw); go_simp; try with_reducible rfl)⟩) hHeld4 ?_
        try simp only [List.getElem_toArray, List.getElem_cons_succ, List.getElem_cons_zero, Act.put, List.setIfInBounds_toArray, List.set_cons_zero, List.set_cons_succ]
        refine wpAnyH_take (i := 20) (v := _) rfl (by kernel_rfl) (by kernel_rfl) (by kernel_rfl) (fun _ _ _ h => h) (Or.inl ⟨by rfl, fun w5 hSw => (by (try dsimp only at hSw); go_simp; try with_reducible rfl)⟩) hHeld4 ?_
        try simp only [List.getElem_toArray, List.getElem_cons_succ, List.getElem_cons_zero, Act.put, List.setIfInBounds_toArray, List.set_cons_zero, List.set_cons_succ]
        refine wpAnyH_done (by kernel_rfl) ?_ _
        refine NoPanic.normal ?_
        go_wp2_with fail
        go_meet
        case rel => exact ⟨by rw [HK.out], Lib.hid hb8⟩
      · rw [if_pos (by rfl)]
        go_wp2_with (go_at_call 55; refine (HIT2.out _ (by simp [*])).mono ?_; rintro e w8 ⟨rfl, r1, r10, hb8, hcr⟩)
        refine hK5.out _ _ ⟨r1, r10, hb8⟩ (fun hHeld2 => ?_)
        clear hK5 K5
        try simp only [List.getElem_toArray, List.getElem_cons_succ, List.getElem_cons_zero, Act.put, List.setIfInBounds_toArray, List.set_cons_zero, List.set_cons_succ]
        refine wpAnyH_ready (rs := [0]) (by kernel_rfl) (by simp) ?_
        refine AllReadyH.cons rfl (fun K5 hK5 => ?_) AllReadyH.nil
        go_simp
        have hb9 := hb8.alloc hb8.size (.cells #[.string ⟨#[45]⟩, .string ⟨#[100]⟩, .string ⟨#[108]⟩, .string ⟨#[104]⟩] 9)
        refine hK5.out _ _ (by go_keep) (fun hHeld3 => ?_)
        clear hK5 K5
        try simp only [List.getElem_toArray, List.getElem_cons_succ, List.getElem_cons_zero, Act.put, List.setIfInBounds_toArray, List.set_cons_zero, List.set_cons_succ]
        refine wpAnyH_take (i := 4) (v := _) rfl (by kernel_rfl) (by kernel_rfl) (by kernel_rfl) (fun _ _ _ h => h) (Or.inl ⟨by rfl, fun w5 hSw => (by (try dsimp only at hSw); go_simp; try with_reducible rfl)⟩) hHeld3 ?_
        try simp only [List.getElem_toArray, List.getElem_cons_succ, List.getElem_cons_zero, Act.put, List.setIfInBounds_toArray, List.set_cons_zero, List.set_cons_succ]
        refine wpAnyH_imp (S' := fun w' => (w'.cell? ⟨w.heap.size, 1, none⟩ = some (.int .i64 2) ∧ w'.cell? ⟨w.heap.size, 10, none⟩ = some (.slice x.da x.data.length x.dcap) ∧ Below w6.heap.size w6 w') ∧ w'.cell? ⟨w8.heap.size, 1, none⟩ = some (.string ⟨#[100]⟩)) (fun _ h => h.1) _ _ _ _ ?_
        have hHeld4 : ((w8.alloc (.cells #[.string ⟨#[45]⟩, .string ⟨#[100]⟩, .string ⟨#[108]⟩, .string ⟨#[104]⟩] 9)).cell? ⟨w.heap.size, 1, none⟩ = some (.int .i64 2) ∧ (w8.alloc (.cells #[.string ⟨#[45]⟩, .string ⟨#[100]⟩, .string ⟨#[108]⟩, .string ⟨#[104]⟩] 9)).cell? ⟨w.heap.size, 10, none⟩ = some (.slice x.da x.data.length x.dcap) ∧ Below w6.heap.size w6 (w8.alloc (.cells #[.string ⟨#[45]⟩, .string ⟨#[100]⟩, .string ⟨#[108]⟩, .string ⟨#[104]⟩] 9))) ∧ (w8.alloc (.cells #[.string ⟨#[45]⟩, .string ⟨#[100]⟩, .string ⟨#[108]⟩, .string ⟨#[104]⟩] 9)).cell? ⟨w8.heap.size, 1, none⟩ = some (.string ⟨#[100]⟩) := ⟨hHeld3, by simp⟩
        refine wpAnyH_take (i := 5) (v := _) rfl (by kernel_rfl) (by kernel_rfl) (by kernel_rfl) (fun _ _ _ h => h) (Or.inl ⟨by rfl, fun w5 hSw => (by (try dsimp only at hSw); go_simp; try with_reducible rfl)⟩) hHeld4 ?_
        try simp only [List.getElem_toArray, List.getElem_cons_succ, List.getElem_cons_zero, Act.put, List.setIfInBounds_toArray, List.set_cons_zero, List.set_cons_succ]
        refine wpAnyH_take (i := 7) (v := _) rfl (by kernel_rfl) (by kernel_rfl) (by kernel_rfl) (fun _ _ _ h => h) (Or.inl ⟨by rfl, fun w5 hSw => (by (try dsimp only at hSw); go_simp; try with_reducible rfl)⟩) hHeld4 ?_
        try simp only [List.getElem_toArray, List.getElem_cons_succ, List.getElem_cons_zero, Act.put, List.setIfInBounds_toArray, List.set_cons_zero, List.set_cons_succ]
        refine wpAnyH_take (i := 8) (v := _) rfl (by kernel_rfl) (by kernel_rfl) (by kernel_rfl) (fun _ _ _ h => h) (Or.inl ⟨by rfl, fun w5 hSw => (by (try dsimp only at hSw); go_simp; try with_reducible rfl)⟩) hHeld4 ?_
        try simp only [List.getElem_toArray, List.getElem_cons_succ, List.getElem_cons_zero, Act.put, List.setIfInBounds_toArray, List.set_cons_zero, List.set_cons_succ]
        refine wpAnyH_take (i := 10) (v := _) rfl (by kernel_rfl) (by kernel_rfl) (by kernel_rfl) (fun _ _ _ h => h) (Or.inl ⟨by rfl, fun w5 hSw => (by (try dsimp only at hSw); go_simp; try with_reducible rfl)⟩) hHeld4 ?_
        try simp only [List.getElem_toArray, List.getElem_cons_succ, List.getElem_cons_zero, Act.put, List.setIfInBounds_toArray, List.set_cons_zero, List.set_cons_succ]
        refine wpAnyH_take (i := 11) (v := _) rfl (by kernel_rfl) (by kernel_rfl) (by kernel_rfl) (fun _ _ _ h => h) (Or.inl ⟨by rfl, fun w5 hSw => (by (try dsimp only at hSw); go_simp; try with_reducible rfl)⟩) hHeld4 ?_
        try simp only [List.getElem_toArray, List.getElem_cons_succ, List.getElem_cons_zero, Act.put, List.setIfInBounds_toArray, List.set_cons_zero, List.set_cons_succ]
        refine wpAnyH_take (i := 13) (v := _) rfl (by kernel_rfl) (by kernel_rfl) (by kernel_rfl) (fun _ _ _ h => h) (Or.inl ⟨by rfl, fun w5 hSw => (by (try dsimp only at hSw); go_simp; try with_reducible rfl)⟩) hHeld4 ?_
        try simp only [List.getElem_toArray, List.getElem_cons_succ, List.getElem_cons_zero, Act.put, List.setIfInBounds_toArray, List.set_cons_zero, List.set_cons_succ]
        refine wpAnyH_take (i := 14) (v := _) rfl (by kernel_rfl) (by kernel_rfl) (by kernel_rfl) (fun _ _ _ h => h) (Or.inl ⟨by rfl, fun w5 hSw => (by (try dsimp only at hSw); go_simp; try with_reducible rfl)⟩) hHeld4 ?_
        try simp only [List.getElem_toArray, List.getElem_cons_succ, List.getElem_cons_zero, Act.put, List.setIfInBounds_toArray, List.set_cons_zero, List.set_cons_succ]
        refine wpAnyH_take (i := 19) (v := _) rfl (by kernel_rfl) (by kernel_rfl) (by kernel_rfl) (fun _ _ _ h => h) (Or.inl ⟨by rfl, fun w5 hSw => (by (try dsimp only at hSw); go_simp; try with_reducible rfl)⟩) hHeld4 ?_
        try simp only [List.getElem_toArray, List.getElem_cons_succ, List.getElem_cons_zero, Act.put, List.setIfInBounds_toArray, List.set_cons_zero, List.set_cons_succ]
        refine wpAnyH_take (i := 20) (v := _) rfl (by kernel_rfl) (by kernel_rfl) (by kernel_rfl) (fun _ _ _ h => h) (Or.inl ⟨by rfl, fun w5 hSw => (by (try dsimp only at hSw); go_simp; try with_reducible rfl)⟩) hHeld4 ?_
        try simp only [List.getElem_toArray, List.getElem_cons_succ, List.getElem_cons_zero, Act.put, List.setIfInBounds_toArray, List.set_cons_zero, List.set_cons_succ]
        refine wpAnyH_done (by kernel_rfl) ?_ _
        refine NoPanic.normal ?_
        go_wp2_with fail
        go_meet
        case rel => exact ⟨by rw [HK.out], Lib.hid hb9⟩
    · rw [hk] at h1 HIT2
      have HK := Lib.hid (show kindS x.kind = ⟨#[108]⟩ by rw [hk]; rfl)
      have hw1 : IntKind.i64.wrap ((3 : Int) - 1) = 2 := by rfl
      have hw0 : IntKind.i64.wrap 2 = 2 := by rfl
      clear hk
      have hA : Below w6.heap.size w6 (w6.alloc (.cells #[.string ⟨#[45]⟩, .string ⟨#[100]⟩, .string ⟨#[108]⟩, .string ⟨#[104]⟩] 9)).drew := ((Below.refl w6.heap.size w6).alloc (Nat.le_refl _) _).drew
      refine wp_region_noPanic ?_
      refine wp_region_held_drew (S := fun w' => w'.cell? ⟨w.heap.size, 1, none⟩ = some (.int .i64 3) ∧ w'.cell? ⟨w.heap.size, 10, none⟩ = some (.slice x.da x.data.length x.dcap) ∧ Below w6.heap.size w6 w') (by kernel_rfl) (by go_keep) (fun hHeld => ?_)
      refine wpAnyH_take (i := 1) (v := _) rfl (by kernel_rfl) (by kernel_rfl) (by kernel_rfl) (fun _ _ _ h => h) (Or.inl ⟨by rfl, fun w5 hSw => (by (try dsimp only at hSw); go_simp; try with_reducible rfl)⟩) hHeld ?_
      try simp only [List.getElem_toArray, List.getElem_cons_succ, List.getElem_cons_zero, Act.put, List.setIfInBounds_toArray, List.set_cons_zero, List.set_cons_succ]
      refine wpAnyH_take (i := 2) (v := _) rfl (by kernel_rfl) (by kernel_rfl) (by kernel_rfl) (fun _ _ _ h => h) (Or.inl ⟨by rfl, fun w5 hSw => (by (try dsimp only at hSw); go_simp; try with_reducible rfl)⟩) hHeld ?_
      try simp only [List.getElem_toArray, List.getElem_cons_succ, List.getElem_cons_zero, Act.put, List.setIfInBounds_toArray, List.set_cons_zero, List.set_cons_succ]
      refine wpAnyH_take (i := 3) (v := _) rfl (by kernel_rfl) (by kernel_rfl) (by kernel_rfl) (fun _ _ _ h => h) (Or.inl ⟨by rfl, fun w5 hSw => (by (try dsimp only at hSw); go_simp; try with_reducible rfl)⟩) hHeld ?_
      try simp only [List.getElem_toArray, List.getElem_cons_succ, List.getElem_cons_zero, Act.put, List.setIfInBounds_toArray, List.set_cons_zero, List.set_cons_succ]
      refine wpAnyH_take (i := 6) (v := _) rfl (by kernel_rfl) (by kernel_rfl) (by kernel_rfl) (fun _ _ _ h => h) (Or.inl ⟨by rfl, fun w5 hSw => (by (try dsimp only at hSw); go_simp; try with_reducible rfl)⟩) hHeld ?_
      try simp only [List.getElem_toArray, List.getElem_cons_succ, List.getElem_cons_zero, Act.put, List.setIfInBounds_toArray, List.set_cons_zero, List.set_cons_succ]
      refine wpAnyH_take (i := 9) (v := _) rfl (by kernel_rfl) (by kernel_rfl) (by kernel_rfl) (fun _ _ _ h => h) (Or.inl ⟨by rfl, fun w5 hSw => (by (try dsimp only at hSw); go_simp; try with_reducible rfl)⟩) hHeld ?_
      try simp only [List.getElem_toArray, List.getElem_cons_succ, List.getElem_cons_zero, Act.put, List.setIfInBounds_toArray, List.set_cons_zero, List.set_cons_succ]
      refine wpAnyH_take (i := 12) (v := _) rfl (by kernel_rfl) (by kernel_rfl) (by kernel_rfl) (fun _ _ _ h => h) (Or.inl ⟨by rfl, fun w5 hSw => (by (try dsimp only at hSw); go_simp; try with_reducible rfl)⟩) hHeld ?_
      try simp only [List.getElem_toArray, List.getElem_cons_succ, List.getElem_cons_zero, Act.put, List.setIfInBounds_toArray, List.set_cons_zero, List.set_cons_succ]
      refine wpAnyH_take (i := 15) (v := _) rfl (by kernel_rfl) (by kernel_rfl) (by kernel_rfl) (fun _ _ _ h => h) (Or.inl ⟨by rfl, fun w5 hSw => (by (try dsimp only at hSw); go_simp; try with_reducible rfl)⟩) hHeld ?_
      try simp only [List.getElem_toArray, List.getElem_cons_succ, List.getElem_cons_zero, Act.put, List.setIfInBounds_toArray, List.set_cons_zero, List.set_cons_succ]
      refine wpAnyH_take (i := 16) (v := _) rfl (by kernel_rfl) (by kernel_rfl) (by kernel_rfl) (fun _ _ _ h => h) (Or.inl ⟨by rfl, fun w5 hSw => (by (try dsimp only at hSw); go_simp; try with_reducible rfl)⟩) hHeld ?_
      try simp only [List.getElem_toArray, List.getElem_cons_succ, List.getElem_cons_zero, Act.put, List.setIfInBounds_toArray, List.set_cons_zero, List.set_cons_succ]
      refine wpAnyH_take (i := 17) (v := _) rfl (by kernel_rfl) (by kernel_rfl) (by kernel_rfl) (fun _ _ _ h => h) (Or.inl ⟨by rfl, fun w5 hSw => (by (try dsimp only at hSw); go_simp; try with_reducible rfl)⟩) hHeld ?_
      try simp only [List.getElem_toArray, List.getElem_cons_succ, List.getElem_cons_zero, Act.put, List.setIfInBounds_toArray, List.set_cons_zero, List.set_cons_succ]
      refine wpAnyH_ready (rs := [0, 18]) (by kernel_rfl) (by simp) ?_
      refine AllReadyH.cons rfl (fun K5 hK5 => ?_) (AllReadyH.cons rfl (fun K5 hK5 => ?_) AllReadyH.nil)
      · go_simp
        refine hK5.out _ _ (by go_keep) (fun hHeld2 => ?_)
        clear hK5 K5
        try simp only [List.getElem_toArray, List.getElem_cons_succ, List.getElem_cons_zero, Act.put, List.setIfInBounds_toArray, List.set_cons_zero, List.set_cons_succ]
        refine wpAnyH_take (i := 4) (v := _) rfl (by kernel_rfl) (by kernel_rfl) (by kernel_rfl) (fun _ _ _ h => h) (Or.inl ⟨by rfl, fun w5 hSw => (by (try dsimp only at hSw); go_simp; try with_reducible rfl)⟩) hHeld2 ?_
        try simp only [List.getElem_toArray, List.getElem_cons_succ, List.getElem_cons_zero, Act.put, List.setIfInBounds_toArray, List.set_cons_zero, List.set_cons_succ]
        refine wpAnyH_imp (S' := fun w' => (w'.cell? ⟨w.heap.size, 1, none⟩ = some (.int .i64 3) ∧ w'.cell? ⟨w.heap.size, 10, none⟩ = some (.slice x.da x.data.length x.dcap) ∧ Below w6.heap.size w6 w') ∧ w'.cell? ⟨w6.heap.size, 2, none⟩ = some (.string ⟨#[108]⟩)) (fun _ h => h.1) _ _ _ _ ?_
        have hHeld3 : ((w6.alloc (.cells #[.string ⟨#[45]⟩, .string ⟨#[100]⟩, .string ⟨#[108]⟩, .string ⟨#[104]⟩] 9)).drew.cell? ⟨w.heap.size, 1, none⟩ = some (.int .i64 3) ∧ (w6.alloc (.cells #[.string ⟨#[45]⟩, .string ⟨#[100]⟩, .string ⟨#[108]⟩, .string ⟨#[104]⟩] 9)).drew.cell? ⟨w.heap.size, 10, none⟩ = some (.slice x.da x.data.length x.dcap) ∧ Below w6.heap.size w6 (w6.alloc (.cells #[.string ⟨#[45]⟩, .string ⟨#[100]⟩, .string ⟨#[108]⟩, .string ⟨#[104]⟩] 9)).drew) ∧ (w6.alloc (.cells #[.string ⟨#[45]⟩, .string ⟨#[100]⟩, .string ⟨#[108]⟩, .string ⟨#[104]⟩] 9)).drew.cell? ⟨w6.heap.size, 2, none⟩ = some (.string ⟨#[108]⟩) := ⟨hHeld2, by simp⟩
        refine wpAnyH_take (i := 5) (v := _) rfl (by kernel_rfl) (by kernel_rfl) (by kernel_rfl) (fun _ _ _ h => h) (Or.inl ⟨by rfl, fun w5 hSw => (by (try dsimp only at hSw); go_simp; try with_reducible rfl)⟩) hHeld3 ?_
        try simp only [List.getElem_toArray, List.getElem_cons_succ, List.getElem_cons_zero, Act.put, List.setIfInBounds_toArray, List.set_cons_zero, List.set_cons_succ]
        refine wpAnyH_take (i := 7) (v := _) rfl (by kernel_rfl) (by kernel_rfl) (by kernel_rfl) (fun _ _ _ h => h) (Or.inl ⟨by rfl, fun w5 hSw => (by (try dsimp only at hSw); go_simp; try with_reducible rfl)⟩) hHeld3 ?_
        try simp only [List.getElem_toArray, List.getElem_cons_succ, List.getElem_cons_zero, Act.put, List.setIfInBounds_toArray, List.set_cons_zero, List.set_cons_succ]
        refine wpAnyH_take (i := 8) (v := _) rfl (by kernel_rfl) (by kernel_rfl) (by kernel_rfl) (fun _ _ _ h => h) (Or.inl ⟨by rfl, fun w5 hSw => (by (try dsimp only at hSw); go_simp; try with_reducible rfl)⟩) hHeld3 ?_
        try simp only [List.getElem_toArray, List.getElem_cons_succ, List.getElem_cons_zero, Act.put, List.setIfInBounds_toArray, List.set_cons_zero, List.set_cons_succ]
        refine wpAnyH_take (i := 10) (v := _) rfl (by kernel_rfl) (by kernel_rfl) (by kernel_rfl) (fun _ _ _ h => h) (Or.inl ⟨by rfl, fun w5 hSw => (by (try dsimp only at hSw); go_simp; try with_reducible rfl)⟩) hHeld3 ?_
        try simp only [List.getElem_toArray, List.getElem_cons_succ, List.getElem_cons_zero, Act.put, List.setIfInBounds_toArray, List.set_cons_zero, List.set_cons_succ]
        refine wpAnyH_take (i := 11) (v := _) rfl (by kernel_rfl) (by kernel_rfl) (by kernel_rfl) (fun _ _ _ h => h) (Or.inl ⟨by rfl, fun w5 hSw => (by (try dsimp only at hSw); go_simp; try with_reducible rfl)⟩) hHeld3 ?_
        try simp only [List.getElem_toArray, List.getElem_cons_succ, List.getElem_cons_zero, Act.put, List.setIfInBounds_toArray, List.set_cons_zero, List.set_cons_succ]
        refine wpAnyH_take (i := 13) (v := _) rfl (by kernel_rfl) (by kernel_rfl) (by kernel_rfl) (fun _ _ _ h => h) (Or.inl ⟨by rfl, fun w5 hSw => (by (try dsimp only at hSw); go_simp; try with_reducible rfl)⟩) hHeld3 ?_
        try simp only [List.getElem_toArray, List.getElem_cons_succ, List.getElem_cons_zero, Act.put, List.setIfInBounds_toArray, List.set_cons_zero, List.set_cons_succ]
        refine wpAnyH_take (i := 14) (v := _) rfl (by kernel_rfl) (by kernel_rfl) (by kernel_rfl) (fun _ _ _ h => h) (Or.inl ⟨by rfl, fun w5 hSw => (by (try dsimp only at hSw); go_simp; try with_reducible rfl)⟩) hHeld3 ?_
        try simp only [List.getElem_toArray, List.getElem_cons_succ, List.getElem_cons_zero, Act.put, List.setIfInBounds_toArray, List.set_cons_zero, List.set_cons_succ]
        refine wpAnyH_ready (rs := [18]) (by kernel_rfl) (by simp) ?_
        refine AllReadyH.cons rfl (fun K5 hK5 => ?_) AllReadyH.nil
        rw [if_pos (by rfl)]
        go_wp2_with (go_at_call 55; refine (HIT2.out _ (by simp [*])).mono ?_; rintro e w8 ⟨rfl, r1, r10, hb8, hcr⟩)
        have hc8 : w8.cell? ⟨w6.heap.size, 2, none⟩ = some (.string ⟨#[108]⟩) := (hcr _ _ (by simp)).trans hHeld3.2
        refine hK5.out _ _ ⟨⟨r1, r10, hb8⟩, hc8⟩ (fun hHeld4 => ?_)
        clear hK5 K5
        try simp only [List.getElem_toArray, List.getElem_cons_succ, List.getElem_cons_zero, Act.put, List.setIfInBounds_toArray, List.set_cons_zero, List.set_cons_succ]
        refine wpAnyH_take (i := 19) (v := _) rfl (by kernel_rfl) (by kernel_rfl) (by kernel_rfl) (fun _ _ _ h => h) (Or.inl ⟨by rfl, fun w5 hSw => (by (try dsimp only at hSw); go_simp; try with_reducible rfl)⟩) hHeld4 ?_
        try simp only [List.getElem_toArray, List.getElem_cons_succ, List.getElem_cons_zero, Act.put, List.setIfInBounds_toArray, List.set_cons_zero, List.set_cons_succ]
        refine wpAnyH_take (i := 20) (v := _) rfl (by kernel_rfl) (by kernel_rfl) (by kernel_rfl) (fun _ _ _ h => h) (Or.inl ⟨by rfl, fun w5 hSw => (by (try dsimp only at hSw); go_simp; try with_reducible rfl)⟩) hHeld4 ?_
        try simp only [List.getElem_toArray, List.getElem_cons_succ, List.getElem_cons_zero, Act.put, List.setIfInBounds_toArray, List.set_cons_zero, List.set_cons_succ]
        refine wpAnyH_done (by kernel_rfl) ?_ _
        refine NoPanic.normal ?_
        go_wp2_with fail
        go_meet
        case rel => exact ⟨by rw [HK.out], Lib.hid hb8⟩
      · rw [if_pos (by rfl)]
        go_wp2_with (go_at_call 55; refine (HIT2.out _ (by simp [*])).mono ?_; rintro e w8 ⟨rfl, r1, r10, hb8, hcr⟩)
        refine hK5.out _ _ ⟨r1, r10, hb8⟩ (fun hHeld2 => ?_)
        clear hK5 K5
        try simp only [List.getElem_toArray, List.getElem_cons_succ, List.getElem_cons_zero, Act.put, List.setIfInBounds_toArray, List.set_cons_zero, List.set_cons_succ]
        refine wpAnyH_ready (rs := [0]) (by kernel_rfl) (by simp) ?_
        refine AllReadyH.cons rfl (fun K5 hK5 => ?_) AllReadyH.nil
        go_simp
        have hb9 := hb8.alloc hb8.size (.cells #[.string ⟨#[45]⟩, .string ⟨#[100]⟩, .string ⟨#[108]⟩, .string ⟨#[104]⟩] 9)
        refine hK5.out _ _ (by go_keep) (fun hHeld3 => ?_)
        clear hK5 K5
        try simp only [List.getElem_toArray, List.getElem_cons_succ, List.getElem_cons_zero, Act.put, List.setIfInBounds_toArray, List.set_cons_zero, List.set_cons_succ]
        refine wpAnyH_take (i := 4) (v := _) rfl (by kernel_rfl) (by kernel_rfl) (by kernel_rfl) (fun _ _ _ h => h) (Or.inl ⟨by rfl, fun w5 hSw => (by (try dsimp only at hSw); go_simp; try with_reducible rfl)⟩) hHeld3 ?_
        try simp only [List.getElem_toArray, List.getElem_cons_succ, List.getElem_cons_zero, Act.put, List.setIfInBounds_toArray, List.set_cons_zero, List.set_cons_succ]
        refine wpAnyH_imp (S' := fun w' => (w'.cell? ⟨w.heap.size, 1, none⟩ = some (.int .i64 3) ∧ w'.cell? ⟨w.heap.size, 10, none⟩ = some (.slice x.da x.data.length x.dcap) ∧ Below w6.heap.size w6 w') ∧ w'.cell? ⟨w8.heap.size, 2, none⟩ = some (.string ⟨#[108]⟩)) (fun _ h => h.1) _ _ _ _ ?_
        have hHeld4 : ((w8.alloc (.cells #[.string ⟨#[45]⟩, .string ⟨#[100]⟩, .string ⟨#[108]⟩, .string ⟨#[104]⟩] 9)).cell? ⟨w.heap.size, 1, none⟩ = some (.int .i64 3) ∧ (w8.alloc (.cells #[.string ⟨#[45]⟩, .string ⟨#[100]⟩, .string ⟨#[108]⟩, .string ⟨#[104]⟩] 9)).cell? ⟨w.heap.size, 10, none⟩ = some (.slice x.da x.data.length x.dcap) ∧ Below w6.heap.size w6 (w8.alloc (.cells #[.string ⟨#[45]⟩, .string ⟨#[100]⟩, .string ⟨#[108]⟩, .string ⟨#[104]⟩] 9))) ∧ (w8.alloc (.cells #[.string ⟨#[45]⟩, .string ⟨#[100]⟩, .string ⟨#[108]⟩, .string ⟨#[104]⟩] 9)).cell? ⟨w8.heap.size, 2, none⟩ = some (.string ⟨#[108]⟩) := ⟨hHeld3, by simp⟩
        refine wpAnyH_take (i := 5) (v := _) rfl (by kernel_rfl) (by kernel_rfl) (by kernel_rfl) (fun _ _ _ h => h) (Or.inl ⟨by rfl, fun w5 hSw => (by (try dsimp only at hSw); go_simp; try with_reducible rfl)⟩) hHeld4 ?_
        try simp only [List.getElem_toArray, List.getElem_cons_succ, List.getElem_cons_zero, Act.put, List.setIfInBounds_toArray, List.set_cons_zero, List.set_cons_succ]
        refine wpAnyH_take (i := 7) (v := _) rfl (by kernel_rfl) (by kernel_rfl) (by kernel_rfl) (fun _ _ _ h => h) (Or.inl ⟨by rfl, fun w5 hSw => (by (try dsimp only at hSw); go_simp; try with_reducible rfl)⟩) hHeld4 ?_
        try simp only [List.getElem_toArray, List.getElem_cons_succ, List.getElem_cons_zero, Act.put, List.setIfInBounds_toArray, List.set_cons_zero, List.set_cons_succ]
        refine wpAnyH_take (i := 8) (v := _) rfl (by kernel_rfl) (by kernel_rfl) (by kernel_rfl) (fun _ _ _ h => h) (Or.inl ⟨by rfl, fun w5 hSw => (by (try dsimp only at hSw); go_simp; try with_reducible rfl)⟩) hHeld4 ?_
        try simp only [List.getElem_toArray, List.getElem_cons_succ, List.getElem_cons_zero, Act.put, List.setIfInBounds_toArray, List.set_cons_zero, List.set_cons_succ]
        refine wpAnyH_take (i := 10) (v := _) rfl (by kernel_rfl) (by kernel_rfl) (by kernel_rfl) (fun _ _ _ h => h) (Or.inl ⟨by rfl, fun w5 hSw => (by (try dsimp only at hSw); go_simp; try with_reducible rfl)⟩) hHeld4 ?_
        try simp only [List.getElem_toArray, List.getElem_cons_succ, List.getElem_cons_zero, Act.put, List.setIfInBounds_toArray, List.set_cons_zero, List.set_cons_succ]
        refine wpAnyH_take (i := 11) (v := _) rfl (by kernel_rfl) (by kernel_rfl) (by kernel_rfl) (fun _ _ _ h => h) (Or.inl ⟨by rfl, fun w5 hSw => (by (try dsimp only at hSw); go_simp; try with_reducible rfl)⟩) hHeld4 ?_
        try simp only [List.getElem_toArray, List.getElem_cons_succ, List.getElem_cons_zero, Act.put, List.setIfInBounds_toArray, List.set_cons_zero, List.set_cons_succ]
        refine wpAnyH_take (i := 13) (v := _) rfl (by kernel_rfl) (by kernel_rfl) (by kernel_rfl) (fun _ _ _ h => h) (Or.inl ⟨by rfl, fun w5 hSw => (by (try dsimp only at hSw); go_simp; try with_reducible rfl)⟩) hHeld4 ?_
        try simp only [List.getElem_toArray, List.getElem_cons_succ, List.getElem_cons_zero, Act.put, List.setIfInBounds_toArray, List.set_cons_zero, List.set_cons_succ]
        refine wpAnyH_take (i := 14) (v := _) rfl (by kernel_rfl) (by kernel_rfl) (by kernel_rfl) (fun _ _ _ h => h) (Or.inl ⟨by rfl, fun w5 hSw => (by (try dsimp only at hSw); go_simp; try with_reducible rfl)⟩) hHeld4 ?_
        try simp only [List.getElem_toArray, List.getElem_cons_succ, List.getElem_cons_zero, Act.put, List.setIfInBounds_toArray, List.set_cons_zero, List.set_cons_succ]
        refine wpAnyH_take (i := 19) (v := _) rfl (by kernel_rfl) (by kernel_rfl) (by kernel_rfl) (fun _ _ _ h => h) (Or.inl ⟨by rfl, fun w5 hSw => (by (try dsimp only at hSw); go_simp; try with_reducible rfl)⟩) hHeld4 ?_
        try simp only [List.getElem_toArray, List.getElem_cons_succ, List.getElem_cons_zero, Act.put, List.setIfInBounds_toArray, List.set_cons_zero, List.set_cons_succ]
        refine wpAnyH_take (i := 20) (v := _) rfl (by kernel_rfl) (by kernel_rfl) (by kernel_rfl) (fun _ _ _ h => h) (Or.inl ⟨by rfl, fun w5 hSw => (by (try dsimp only at hSw); go_simp; try with_reducible rfl)⟩) hHeld4 ?_
        try simp only [List.getElem_toArray, List.getElem_cons_succ, List.getElem_cons_zero, Act.put, List.setIfInBounds_toArray, List.set_cons_zero, List.set_cons_succ]
        refine wpAnyH_done (by kernel_rfl) ?_ _
        refine NoPanic.normal ?_
        go_wp2_with fail
        go_meet
        case rel => exact ⟨by rw [HK.out], Lib.hid hb9⟩
    · rw [hk] at h1 HIT2
      have HK := Lib.hid (show kindS x.kind = ⟨#[104]⟩ by rw [hk]; rfl)
      have hw1 : IntKind.i64.wrap ((4 : Int) - 1) = 3 := by rfl
      have hw0 : IntKind.i64.wrap 3 = 3 := by rfl
      clear hk
      have hA : Below w6.heap.size w6 (w6.alloc (.cells #[.string ⟨#[45]⟩, .string ⟨#[100]⟩, .string ⟨#[108]⟩, .string ⟨#[104]⟩] 9)).drew := ((Below.refl w6.heap.size w6).alloc (Nat.le_refl _) _).drew
      refine wp_region_noPanic ?_
      refine wp_region_held_drew (S := fun w' => w'.cell? ⟨w.heap.size, 1, none⟩ = some (.int .i64 4) ∧ w'.cell? ⟨w.heap.size, 10, none⟩ = some (.slice x.da x.data.length x.dcap) ∧ Below w6.heap.size w6 w') (by kernel_rfl) (by go_keep) (fun hHeld => ?_)
      refine wpAnyH_take (i := 1) (v := _) rfl (by kernel_rfl) (by kernel_rfl) (by kernel_rfl) (fun _ _ _ h => h) (Or.inl ⟨by rfl, fun w5 hSw => (by (try dsimp only at hSw); go_simp; try with_reducible rfl)⟩) hHeld ?_
      try simp only [List.getElem_toArray, List.getElem_cons_succ, List.getElem_cons_zero, Act.put, List.setIfInBounds_toArray, List.set_cons_zero, List.set_cons_succ]
      refine wpAnyH_take (i := 2) (v := _) rfl (by kernel_rfl) (by kernel_rfl) (by kernel_rfl) (fun _ _ _ h => h) (Or.inl ⟨by rfl, fun w5 hSw => (by (try dsimp only at hSw); go_simp; try with_reducible rfl)⟩) hHeld ?_
      try simp only [List.getElem_toArray, List.getElem_cons_succ, List.getElem_cons_zero, Act.put, List.setIfInBounds_toArray, List.set_cons_zero, List.set_cons_succ]
      refine wpAnyH_take (i := 3) (v := _) rfl (by kernel_rfl) (by kernel_rfl) (by kernel_rfl) (fun _ _ _ h => h) (Or.inl ⟨by rfl, fun w5 hSw => (by (try dsimp only at hSw); go_simp; try with_reducible rfl)⟩) hHeld ?_
      try simp only [List.getElem_toArray, List.getElem_cons_succ, List.getElem_cons_zero, Act.put, List.setIfInBounds_toArray, List.set_cons_zero, List.set_cons_succ]
      refine wpAnyH_take (i := 6) (v := _) rfl (by kernel_rfl) (by kernel_rfl) (by kernel_rfl) (fun _ _ _ h => h) (Or.inl ⟨by rfl, fun w5 hSw => (by (try dsimp only at hSw); go_simp; try with_reducible rfl)⟩) hHeld ?_
      try simp only [List.getElem_toArray, List.getElem_cons_succ, List.getElem_cons_zero, Act.put, List.setIfInBounds_toArray, List.set_cons_zero, List.set_cons_succ]
      refine wpAnyH_take (i := 9) (v := _) rfl (by kernel_rfl) (by kernel_rfl) (by kernel_rfl) (fun _ _ _ h => h) (Or.inl ⟨by rfl, fun w5 hSw => (by (try dsimp only at hSw); go_simp; try with_reducible rfl)⟩) hHeld ?_
      try simp only [List.getElem_toArray, List.getElem_cons_succ, List.getElem_cons_zero, Act.put, List.setIfInBounds_toArray, List.set_cons_zero, List.set_cons_succ]
      refine wpAnyH_take (i := 12) (v := _) rfl (by kernel_rfl) (by kernel_rfl) (by kernel_rfl) (fun _ _ _ h => h) (Or.inl ⟨by rfl, fun w5 hSw => (by (try dsimp only at hSw); go_simp; try with_reducible rfl)⟩) hHeld ?_
      try simp only [List.getElem_toArray, List.getElem_cons_succ, List.getElem_cons_zero, Act.put, List.setIfInBounds_toArray, List.set_cons_zero, List.set_cons_succ]
      refine wpAnyH_take (i := 15) (v := _) rfl (by kernel_rfl) (by kernel_rfl) (by kernel_rfl) (fun _ _ _ h => h) (Or.inl ⟨by rfl, fun w5 hSw => (by (try dsimp only at hSw); go_simp; try with_reducible rfl)⟩) hHeld ?_
      try simp only [List.getElem_toArray, List.getElem_cons_succ, List.getElem_cons_zero, Act.put, List.setIfInBounds_toArray, List.set_cons_zero, List.set_cons_succ]
      refine wpAnyH_take (i := 16) (v := _) rfl (by kernel_rfl) (by kernel_rfl) (by kernel_rfl) (fun _ _ _ h => h) (Or.inl ⟨by rfl, fun w5 hSw => (by (try dsimp only at hSw); go_simp; try with_reducible rfl)⟩) hHeld ?_
      try simp only [List.getElem_toArray, List.getElem_cons_succ, List.getElem_cons_zero, Act.put, List.setIfInBounds_toArray, List.set_cons_zero, List.set_cons_succ]
      refine wpAnyH_take (i := 17) (v := _) rfl (by kernel_rfl) (by kernel_rfl) (by kernel_rfl) (fun _ _ _ h => h) (Or.inl ⟨by rfl, fun w5 hSw => (by (try dsimp only at hSw); go_simp; try with_reducible rfl)⟩) hHeld ?_
      try simp only [List.getElem_toArray, List.getElem_cons_succ, List.getElem_cons_zero, Act.put, List.setIfInBounds_toArray, List.set_cons_zero, List.set_cons_succ]
      refine wpAnyH_ready (rs := [0, 18]) (by kernel_rfl) (by simp) ?_
      refine AllReadyH.cons rfl (fun K5 hK5 => ?_) (AllReadyH.cons rfl (fun K5 hK5 => ?_) AllReadyH.nil)
      · go_simp
        refine hK5.out _ _ (by go_keep) (fun hHeld2 => ?_)
        clear hK5 K5
        try simp only [List.getElem_toArray, List.getElem_cons_succ, List.getElem_cons_zero, Act.put, List.setIfInBounds_toArray, List.set_cons_zero, List.set_cons_succ]
        refine wpAnyH_take (i := 4) (v := _) rfl (by kernel_rfl) (by kernel_rfl) (by kernel_rfl) (fun _ _ _ h => h) (Or.inl ⟨by rfl, fun w5 hSw => (by (try dsimp only at hSw); go_simp; try with_reducible rfl)⟩) hHeld2 ?_
        try simp only [List.getElem_toArray, List.getElem_cons_succ, List.getElem_cons_zero, Act.put, List.setIfInBounds_toArray, List.set_cons_zero, List.set_cons_succ]
        refine wpAnyH_imp (S' := fun w' => (w'.cell? ⟨w.heap.size, 1, none⟩ = some (.int .i64 4) ∧ w'.cell? ⟨w.heap.size, 10, none⟩ = some (.slice x.da x.data.length x.dcap) ∧ Below w6.heap.size w6 w') ∧ w'.cell? ⟨w6.heap.size, 3, none⟩ = some (.string ⟨#[104]⟩)) (fun _ h => h.1) _ _ _ _ ?_
        have hHeld3 : ((w6.alloc (.cells #[.string ⟨#[45]⟩, .string ⟨#[100]⟩, .string ⟨#[108]⟩, .string ⟨#[104]⟩] 9)).drew.cell? ⟨w.heap.size, 1, none⟩ = some (.int .i64 4) ∧ (w6.alloc (.cells #[.string ⟨#[45]⟩, .string ⟨#[100]⟩, .string ⟨#[108]⟩, .string ⟨#[104]⟩] 9)).drew.cell? ⟨w.heap.size, 10, none⟩ = some (.slice x.da x.data.length x.dcap) ∧ Below w6.heap.size w6 (w6.alloc (.cells #[.string ⟨#[45]⟩, .string ⟨#[100]⟩, .string ⟨#[108]⟩, .string ⟨#[104]⟩] 9)).drew) ∧ (w6.alloc (.cells #[.string ⟨#[45]⟩, .string ⟨#[100]⟩, .string ⟨#[108]⟩, .string ⟨#[104]⟩] 9)).drew.cell? ⟨w6.heap.size, 3, none⟩ = some (.string ⟨#[104]⟩) := ⟨hHeld2, by simp⟩
        refine wpAnyH_take (i := 5) (v := _) rfl (by kernel_rfl) (by kernel_rfl) (by kernel_rfl) (fun _ _ _ h => h) (Or.inl ⟨by rfl, fun w5 hSw => (by (try dsimp only at hSw); go_simp; try with_reducible rfl)⟩) hHeld3 ?_
        try simp only [List.getElem_toArray, List.getElem_cons_succ, List.getElem_cons_zero, Act.put, List.setIfInBounds_toArray, List.set_cons_zero, List.set_cons_succ]
        refine wpAnyH_take (i := 7) (v := _) rfl (by kernel_rfl) (by kernel_rfl) (by kernel_rfl) (fun _ _ _ h => h) (Or.inl ⟨by rfl, fun w5 hSw => (by (try dsimp only at hSw); go_simp; try with_reducible rfl)⟩) hHeld3 ?_
        try simp only [List.getElem_toArray, List.getElem_cons_succ, List.getElem_cons_zero, Act.put, List.setIfInBounds_toArray, List.set_cons_zero, List.set_cons_succ]
        refine wpAnyH_take (i := 8) (v := _) rfl (by kernel_rfl) (by kernel_rfl) (by kernel_rfl) (fun _ _ _ h => h) (Or.inl ⟨by rfl, fun w5 hSw => (by (try dsimp only at hSw); go_simp; try with_reducible rfl)⟩) hHeld3 ?_
        try simp only [List.getElem_toArray, List.getElem_cons_succ, List.getElem_cons_zero, Act.put, List.setIfInBounds_toArray, List.set_cons_zero, List.set_cons_succ]
        refine wpAnyH_take (i := 10) (v := _) rfl (by kernel_rfl) (by kernel_rfl) (by kernel_rfl) (fun _ _ _ h => h) (Or.inl ⟨by rfl, fun w5 hSw => (by (try dsimp only at hSw); go_simp; try with_reducible rfl)⟩) hHeld3 ?_
        try simp only [List.getElem_toArray, List.getElem_cons_succ, List.getElem_cons_zero, Act.put, List.setIfInBounds_toArray, List.set_cons_zero, List.set_cons_succ]
        refine wpAnyH_take (i := 11) (v := _) rfl (by kernel_rfl) (by kernel_rfl) (by kernel_rfl) (fun _ _ _ h => h) (Or.inl ⟨by rfl, fun w5 hSw => (by (try dsimp only at hSw); go_simp; try with_reducible rfl)⟩) hHeld3 ?_
        try simp only [List.getElem_toArray, List.getElem_cons_succ, List.getElem_cons_zero, Act.put, List.setIfInBounds_toArray, List.set_cons_zero, List.set_cons_succ]
        refine wpAnyH_take (i := 13) (v := _) rfl (by kernel_rfl) (by kernel_rfl) (by kernel_rfl) (fun _ _ _ h => h) (Or.inl ⟨by rfl, fun w5 hSw => (by (try dsimp only at hSw); go_simp; try with_reducible rfl)⟩) hHeld3 ?_
        try simp only [List.getElem_toArray, List.getElem_cons_succ, List.getElem_cons_zero, Act.put, List.setIfInBounds_toArray, List.set_cons_zero, List.set_cons_succ]
        refine wpAnyH_take (i := 14) (v := _) rfl (by kernel_rfl) (by kernel_rfl) (by kernel_rfl) (fun _ _ _ h => h) (Or.inl ⟨by rfl, fun w5 hSw => (by (try dsimp only at hSw); go_simp; try with_reducible rfl)⟩) hHeld3 ?_
        try simp only [List.getElem_toArray, List.getElem_cons_succ, List.getElem_cons_zero, Act.put, List.setIfInBounds_toArray, List.set_cons_zero, List.set_cons_succ]
        refine wpAnyH_ready (rs := [18]) (by kernel_rfl) (by simp) ?_
        refine AllReadyH.cons rfl (fun K5 hK5 => ?_) AllReadyH.nil
        rw [if_pos (by rfl)]
        go_wp2_with (go_at_call 55; refine (HIT2.out _ (by simp [*])).mono ?_; rintro e w8 ⟨rfl, r1, r10, hb8, hcr⟩)
        have hc8 : w8.cell? ⟨w6.heap.size, 3, none⟩ = some (.string ⟨#[104]⟩) := (hcr _ _ (by simp)).trans hHeld3.2
        refine hK5.out _ _ ⟨⟨r1, r10, hb8⟩, hc8⟩ (fun hHeld4 => ?_)
        clear hK5 K5
        try simp only [List.getElem_toArray, List.getElem_cons_succ, List.getElem_cons_zero, Act.put, List.setIfInBounds_toArray, List.set_cons_zero, List.set_cons_succ]
        refine wpAnyH_take (i := 19) (v := _) rfl (by kernel_rfl) (by kernel_rfl) (by kernel_rfl) (fun _ _ _ h => h) (Or.inl ⟨by rfl, fun w5 hSw => (by (try dsimp only at hSw); go_simp; try with_reducible rfl)⟩) hHeld4 ?_
        try simp only [List.getElem_toArray, List.getElem_cons_succ, List.getElem_cons_zero, Act.put, List.setIfInBounds_toArray, List.set_cons_zero, List.set_cons_succ]
        refine wpAnyH_take (i := 20) (v := _) rfl (by kernel_rfl) (by kernel_rfl) (by kernel_rfl) (fun _ _ _ h => h) (Or.inl ⟨by rfl, fun w5 hSw => (by (try dsimp only at hSw); go_simp; try with_reducible rfl)⟩) hHeld4 ?_
        try simp only [List.getElem_toArray, List.getElem_cons_succ, List.getElem_cons_zero, Act.put, List.setIfInBounds_toArray, List.set_cons_zero, List.set_cons_succ]
        refine wpAnyH_done (by kernel_rfl) ?_ _
        refine NoPanic.normal ?_
        go_wp2_with fail
        go_meet
        case rel => exact ⟨by rw [HK.out], Lib.hid hb8⟩
      · rw [if_pos (by rfl)]
        go_wp2_with (go_at_call 55; refine (HIT2.out _ (by simp [*])).mono ?_; rintro e w8 ⟨rfl, r1, r10, hb8, hcr⟩)
        refine hK5.out _ _ ⟨r1, r10, hb8⟩ (fun hHeld2 => ?_)
        clear hK5 K5
        try simp only [List.getElem_toArray, List.getElem_cons_succ, List.getElem_cons_zero, Act.put, List.setIfInBounds_toArray, List.set_cons_zero, List.set_cons_succ]
        refine wpAnyH_ready (rs := [0]) (by kernel_rfl) (by simp) ?_
        refine AllReadyH.cons rfl (fun K5 hK5 => ?_) AllReadyH.nil
        go_simp
        have hb9 := hb8.alloc hb8.size (.cells #[.string ⟨#[45]⟩, .string ⟨#[100]⟩, .string ⟨#[108]⟩, .string ⟨#[104]⟩] 9)
        refine hK5.out _ _ (by go_keep) (fun hHeld3 => ?_)
        clear hK5 K5
        try simp only [List.getElem_toArray, List.getElem_cons_succ, List.getElem_cons_zero, Act.put, List.setIfInBounds_toArray, List.set_cons_zero, List.set_cons_succ]
        refine wpAnyH_take (i := 4) (v := _) rfl (by kernel_rfl) (by kernel_rfl) (by kernel_rfl) (fun _ _ _ h => h) (Or.inl ⟨by rfl, fun w5 hSw => (by (try dsimp only at hSw); go_simp; try with_reducible rfl)⟩) hHeld3 ?_
        try simp only [List.getElem_toArray, List.getElem_cons_succ, List.getElem_cons_zero, Act.put, List.setIfInBounds_toArray, List.set_cons_zero, List.set_cons_succ]
        refine wpAnyH_imp (S' := fun w' => (w'.cell? ⟨w.heap.size, 1, none⟩ = some (.int .i64 4) ∧ w'.cell? ⟨w.heap.size, 10, none⟩ = some (.slice x.da x.data.length x.dcap) ∧ Below w6.heap.size w6 w') ∧ w'.cell? ⟨w8.heap.size, 3, none⟩ = some (.string ⟨#[104]⟩)) (fun _ h => h.1) _ _ _ _ ?_
        have hHeld4 : ((w8.alloc (.cells #[.string ⟨#[45]⟩, .string ⟨#[100]⟩, .string ⟨#[108]⟩, .string ⟨#[104]⟩] 9)).cell? ⟨w.heap.size, 1, none⟩ = some (.int .i64 4) ∧ (w8.alloc (.cells #[.string ⟨#[45]⟩, .string ⟨#[100]⟩, .string ⟨#[108]⟩, .string ⟨#[104]⟩] 9)).cell? ⟨w.heap.size, 10, none⟩ = some (.slice x.da x.data.length x.dcap) ∧ Below w6.heap.size w6 (w8.alloc (.cells #[.string ⟨#[45]⟩, .string ⟨#[100]⟩, .string ⟨#[108]⟩, .string ⟨#[104]⟩] 9))) ∧ (w8.alloc (.cells #[.string ⟨#[45]⟩, .string ⟨#[100]⟩, .string ⟨#[108]⟩, .string ⟨#[104]⟩] 9)).cell? ⟨w8.heap.size, 3, none⟩ = some (.string ⟨#[104]⟩) := ⟨hHeld3, by simp⟩
        refine wpAnyH_take (i := 5) (v := _) rfl (by kernel_rfl) (by kernel_rfl) (by kernel_rfl) (fun _ _ _ h => h) (Or.inl ⟨by rfl, fun w5 hSw => (by (try dsimp only at hSw); go_simp; try with_reducible rfl)⟩) hHeld4 ?_
        try simp only [List.getElem_toArray, List.getElem_cons_succ, List.getElem_cons_zero, Act.put, List.setIfInBounds_toArray, List.set_cons_zero, List.set_cons_succ]
        refine wpAnyH_take (i := 7) (v := _) rfl (by kernel_rfl) (by kernel_rfl) (by kernel_rfl) (fun _ _ _ h => h) (Or.inl ⟨by rfl, fun w5 hSw => (by (try dsimp only at hSw); go_simp; try with_reducible rfl)⟩) hHeld4 ?_
        try simp only [List.getElem_toArray, List.getElem_cons_succ, List.getElem_cons_zero, Act.put, List.setIfInBounds_toArray, List.set_cons_zero, List.set_cons_succ]
        refine wpAnyH_take (i := 8) (v := _) rfl (by kernel_rfl) (by kernel_rfl) (by kernel_rfl) (fun _ _ _ h => h) (Or.inl ⟨by rfl, fun w5 hSw => (by (try dsimp only at hSw); go_simp; try with_reducible rfl)⟩) hHeld4 ?_
        try simp only [List.getElem_toArray, List.getElem_cons_succ, List.getElem_cons_zero, Act.put, List.setIfInBounds_toArray, List.set_cons_zero, List.set_cons_succ]
        refine wpAnyH_take (i := 10) (v := _) rfl (by kernel_rfl) (by kernel_rfl) (by kernel_rfl) (fun _ _ _ h => h) (Or.inl ⟨by rfl, fun w5 hSw => (by (try dsimp only at hSw); go_simp; try with_reducible rfl)⟩) hHeld4 ?_
        try simp only [List.getElem_toArray, List.getElem_cons_succ, List.getElem_cons_zero, Act.put, List.setIfInBounds_toArray, List.set_cons_zero, List.set_cons_succ]
        refine wpAnyH_take (i := 11) (v := _) rfl (by kernel_rfl) (by kernel_rfl) (by kernel_rfl) (fun _ _ _ h => h) (Or.inl ⟨by rfl, fun w5 hSw => (by (try dsimp only at hSw); go_simp; try with_reducible rfl)⟩) hHeld4 ?_
        try simp only [List.getElem_toArray, List.getElem_cons_succ, List.getElem_cons_zero, Act.put, List.setIfInBounds_toArray, List.set_cons_zero, List.set_cons_succ]
        refine wpAnyH_take (i := 13) (v := _) rfl (by kernel_rfl) (by kernel_rfl) (by kernel_rfl) (fun _ _ _ h => h) (Or.inl ⟨by rfl, fun w5 hSw => (by (try dsimp only at hSw); go_simp; try with_reducible rfl)⟩) hHeld4 ?_
        try simp only [List.getElem_toArray, List.getElem_cons_succ, List.getElem_cons_zero, Act.put, List.setIfInBounds_toArray, List.set_cons_zero, List.set_cons_succ]
        refine wpAnyH_take (i := 14) (v := _) rfl (by kernel_rfl) (by kernel_rfl) (by kernel_rfl) (fun _ _ _ h => h) (Or.inl ⟨by rfl, fun w5 hSw => (by (try dsimp only at hSw); go_simp; try with_reducible rfl)⟩) hHeld4 ?_
        try simp only [List.getElem_toArray, List.getElem_cons_succ, List.getElem_cons_zero, Act.put, List.setIfInBounds_toArray, List.set_cons_zero, List.set_cons_succ]
        refine wpAnyH_take (i := 19) (v := _) rfl (by kernel_rfl) (by kernel_rfl) (by kernel_rfl) (fun _ _ _ h => h) (Or.inl ⟨by rfl, fun w5 hSw => (by (try dsimp only at hSw); go_simp; try with_reducible rfl)⟩) hHeld4 ?_
        try simp only [List.getElem_toArray, List.getElem_cons_succ, List.getElem_cons_zero, Act.put, List.setIfInBounds_toArray, List.set_cons_zero, List.set_cons_succ]
        refine wpAnyH_take (i := 20) (v := _) rfl (by kernel_rfl) (by kernel_rfl) (by kernel_rfl) (fun _ _ _ h => h) (Or.inl ⟨by rfl, fun w5 hSw => (by (try dsimp only at hSw); go_simp; try with_reducible rfl)⟩) hHeld4 ?_
        try simp only [List.getElem_toArray, List.getElem_cons_succ, List.getElem_cons_zero, Act.put, List.setIfInBounds_toArray, List.set_cons_zero, List.set_cons_succ]
        refine wpAnyH_done (by kernel_rfl) ?_ _
        refine NoPanic.normal ?_
        go_wp2_with fail
        go_meet
        case rel => exact ⟨by rw [HK.out], Lib.hid hb9⟩
  case rest =>
    obtain ⟨rfl, HB7⟩ := hcut
    have HE7 := Lib.hid (HE6.out.below HB7.out)
    have HP7 := Lib.hid (HP6.out.below HB7.out)
    have HB8 := Lib.hid (HB6.out.trans (HB7.out.mono HB6.out.size))
    clear h0 h1 h2 h3 h4 h5 h6 h7 h8 h9 h10 HIT HE6 HP6 HB6 HB7
    obtain ⟨w7, rfl⟩ : ∃ W : World, W = wc := ⟨_, rfl⟩
    obtain ⟨h0, h1, h2, h3, h4, h5, h6, h7, h8, h9, h10⟩ := HE7.out.zero
    have hsa := lineA_size HR.out
    have HLB := Lib.hid (lineB_parts x)
    have HDB := Lib.hid (dayP_bd x.mt.second)
    have HDI := Lib.hid (dayOf_in HR.out.mt.second)
    have hys := dayP_y _ HR.out.mt.second.1 HR.out.mt.second.2
    rw [hlq] at HLB
    rw [HDI.out] at HLB ⊢
    simp only at HLB ⊢
    generalize (kindS x.kind ++ (modeText x.mt.mode).1 ++ (⟨#[32]⟩ : ByteArray) ++ whoS x.mt.user x.mt.uid ++ (⟨#[47]⟩ : ByteArray) ++ whoS x.mt.group x.mt.gid ++ (⟨#[32]⟩ : ByteArray) ++ itoaS (x.data.length : Int)) = la at *
    generalize (dayP x.mt.second).1 = yy at *
    have hm1 := HDB.out.1
    have hm2 := HDB.out.2.1
    have hd1 := HDB.out.2.2.1
    have hd2 := HDB.out.2.2.2
    generalize (dayP x.mt.second).2.1 = mm at *
    generalize (dayP x.mt.second).2.2 = dd at *
    go_upto_region 15 with fail
    have HITO := Lib.hid (fun n (hn : i64 n) W (hB : Below w7.heap.size w7 W) => show Calls Tryd.prog 55 #[.int .i64 n] W (fun e w' => e = .returned (.string (itoaS n)) ∧ w'.cell? ⟨w.heap.size, 0, none⟩ = some (.string x.path) ∧ Below w7.heap.size w7 w') from
      (Itoa_any n W hn (HP7.out.below hB)).mono fun e w' hh => by
        have hb2 := hB.trans (hh.2.mono hB.size)
        exact ⟨hh.1, (HE7.out.below hb2).zero.1, hb2⟩)
    have HTWO := Lib.hid (fun n (h0 : 0 ≤ n) (hn : n < 100) W (hB : Below w7.heap.size w7 W) => show Calls Tryd.prog 59 #[.int .i64 n] W (fun e w' => e = .returned (.string (twoI n)) ∧ w'.cell? ⟨w.heap.size, 0, none⟩ = some (.string x.path) ∧ Below w7.heap.size w7 w') from by
      have e2 : n = ((n.toNat : Nat) : Int) := by omega
      have := RTwo_any n.toNat W (by omega) (HP7.out.below hB)
      rw [← e2] at this
      exact this.mono fun e w' hh => by
        have hb2 := hB.trans (hh.2.mono hB.size)
        exact ⟨hh.1, (HE7.out.below hb2).zero.1, hb2⟩)
    have hdr := (Below.refl w7.heap.size w7).drew
    have hpy := itoaS_size hys
    have hpp := HR.out.pathSize
    have hz1 := Nat.le_of_eq (twoI_size mm)
    have hz2 := Nat.le_of_eq (twoI_size dd)
    have hz3 := Nat.le_of_eq (twoI_size ((lf : Int) / 3600))
    have hz4 := Nat.le_of_eq (twoI_size ((lf : Int) / 60 % 60))
    have hb3 : 0 ≤ (lf : Int) / 3600 ∧ (lf : Int) / 3600 < 100 := by omega
    have hb4 : 0 ≤ (lf : Int) / 60 % 60 ∧ (lf : Int) / 60 % 60 < 100 := by omega
    have hq1 : (lf : Int).tdiv 3600 = (lf : Int) / 3600 := Int.tdiv_eq_ediv_of_nonneg (by omega)
    have hq2 : (lf : Int).tmod 3600 = (lf : Int) % 3600 := Int.tmod_eq_emod_of_nonneg (by omega)
    have hq3 : ((lf : Int) % 3600).tdiv 60 = (lf : Int) / 60 % 60 := by rw [Int.tdiv_eq_ediv_of_nonneg (by omega)]; omega
    generalize hh3 : (lf : Int) / 3600 = h3' at *
    generalize hh4 : (lf : Int) % 3600 = m3' at *
    have hm3 : 0 ≤ m3' ∧ m3' ≤ 3600 := by omega
    generalize hh5 : (lf : Int) / 60 % 60 = n3' at *
    have hw1 : IntKind.i64.wrap h3' = h3' := by rw [IntKind.wrap_i64]; omega
    have hw2 : IntKind.i64.wrap m3' = m3' := by rw [IntKind.wrap_i64]; omega
    have hw3 : IntKind.i64.wrap n3' = n3' := by rw [IntKind.wrap_i64]; omega
    obtain ⟨q0, q1, q2, q3, q4, q5, q6, q7, q8, q9, q10, q11⟩ := line_sums15 _ _ _ _ _ _ _ hpy hz1 hz2 hz3 hz4 hpp hsa
    go_cut [15] from 81 to 112 (fun u wx => u = .string (lineB x) ∧ Hid (Below w7.heap.size w7 wx))
    case first =>
      go_region_held3 (fun w' => w'.cell? ⟨w.heap.size, 0, none⟩ = some (.string x.path) ∧ Below w7.heap.size w7 w') (go_keep)
        (first
          | (go_at_call 55; refine (HITO.out _ ?_ _ ?_).mono ?_; assumption; (simp [*]); rintro e w3 ⟨rfl, r0, hb3⟩)
          | (go_at_call 59; refine (HTWO.out _ ?_ ?_ _ ?_).mono ?_; omega; omega; (simp [*]); rintro e w3 ⟨rfl, r0, hb3⟩))
      go_wp2_with fail
      go_meet
      case rel => exact ⟨by rw [← HLB.out], Lib.hid hb3⟩
    case rest =>
      obtain ⟨rfl, HB9⟩ := hcut
      have HE9 := Lib.hid (HE7.out.below HB9.out)
      have HB10 := Lib.hid (HB8.out.trans (HB9.out.mono HB8.out.size))
      clear h0 h1 h2 h3 h4 h5 h6 h7 h8 h9 h10
      obtain ⟨h0, h1, h2, h3, h4, h5, h6, h7, h8, h9, h10⟩ := HE9.out.zero
      have hsz := HSZ.out
      have htz := HR.out.target
      have HLT := Lib.hid (show lineT x = if x.kind = 3 then lineB x ++ ((⟨#[32, 45, 62, 32]⟩ : ByteArray) ++ x.target) else if x.kind = 4 then lineB x ++ ((⟨#[32, 108, 105, 110, 107, 32, 116, 111, 32]⟩ : ByteArray) ++ x.target) else lineB x from rfl)
      generalize lineB x = lb at *
      by_cases hk3 : x.kind = 3
      · have hd3 : (x.kind == 3) = true := by rw [hk3]; rfl
        have hd4 : (x.kind == 4) = false := by rw [hk3]; rfl
        rw [if_pos hk3] at HLT
        clear hk3 hkk
        go_wp2
        go_ret2
        rw [HLT.out]
        exact ⟨rfl, HB10.out⟩
      · have hd3 : (x.kind == 3) = false := by rw [beq_eq_false_iff_ne]; exact hk3
        rw [if_neg hk3] at HLT
        by_cases hk4 : x.kind = 4
        · have hd4 : (x.kind == 4) = true := by rw [hk4]; rfl
          rw [if_pos hk4] at HLT
          clear hk3 hk4 hkk
          go_wp2
          go_ret2
          rw [HLT.out]
          exact ⟨rfl, HB10.out⟩
        · have hd4 : (x.kind == 4) = false := by rw [beq_eq_false_iff_ne]; exact hk4
          rw [if_neg hk4] at HLT
          clear hk3 hk4 hkk
          go_wp2
          go_ret2
          rw [HLT.out]
          exact ⟨rfl, HB10.out⟩
set_option maxRecDepth 100000 in
set_option maxHeartbeats 1000000 in
theorem LineR_any (x : Ent) (w : World) (hx : x.Ok maxLen w) (hT : Pow10 w) :
    Calls Tryd.prog 21 #[x.val] w fun e w' => e = .returned (.tuple #[.string (lineOf x).1, .int .i64 (lineOf x).2]) ∧ Below w.heap.size w w' := by
  by_cases hE : entFault x = 0
  · rw [lineOf_ok hE]
    exact LineR_ok x w hx hE hT
  · rw [lineOf_bad hE]
    have HBX := Lib.hid ((Below.refl w.heap.size w).alloc (Nat.le_refl _) (.cells #[.string x.path, .int .i64 x.kind, .string x.target, .int .i64 x.mt.mode, .int .i64 x.mt.uid, .int .i64 x.mt.gid, .string x.mt.user, .string x.mt.group, .int .i64 x.mt.second, .int .i64 x.mt.nano, .slice x.da x.data.length x.dcap] 40))
    have HPR := Lib.hid (fun W => EntryFault_any x W hx.path hx.target hx.mt (by obtain ⟨_, _, _, _, _, h, _⟩ := hx.data; exact h) hx.kind (Nat.le_refl _))
    generalize entFault x = q at *
    have hq : (q != 0) = true := by rw [bne_iff_ne]; exact hE
    clear hx hE hT
    go_enter Tryd.func21, Tryd.ntmps21
    go_wp2_with fail
    refine (HPR.out _).mono ?_
    rintro e w1 ⟨rfl, hb⟩
    have HB1 := Lib.hid (HBX.out.trans (hb.mono HBX.out.size))
    clear hb
    go_wp2
    go_ret2
    exact ⟨rfl, HB1.out⟩
end Go.Proofs.YtaffgndickdbiaaDoor
