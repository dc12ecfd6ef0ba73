/-
  Texts: ArcL, ArcR.
-/
import Derived.Test.YtaffgndickdbiaaGreatDoorU19
set_option linter.unusedVariables false
set_option linter.unusedSimpArgs false
set_option linter.unusedSectionVars false
namespace Go.Proofs.YtaffgndickdbiaaGreatDoor
open Go.Creel Go.RowKit
theorem EndM_any (w : World) : Calls Tryz.prog 47 #[] w fun e w' => ∃ v, e = .returned v ∧ OwnM 5 w' w.heap.size v zeros1024 ∧ Below w.heap.size w w' :=
  (End_any w).mono fun e w' ⟨v, h1, h2, h3⟩ => ⟨v, h1, h2.marked, h3⟩
set_option maxRecDepth 100000 in
set_option maxHeartbeats 2000000 in
theorem ArchiveL_at (b off cap : Nat) (l : List Ent) (w : World) (hM : MaxOk w) (hT : Pow10 w) (hE : entsFault l = 0) (hpos : 0 < l.length) (hle : l.length ≤ cap) (hm : cap ≤ maxLen) (hc : EntsAt w b off l) (ho : ∀ i, i < l.length → (ek l i).Ok maxLen w) :
    Calls Tryz.prog 14 #[.slice (some ⟨b, off, none⟩) l.length cap] w (RetM 5 w (arcOf l)) := by
  obtain ⟨i0, hi, hz0, hz1, hz2⟩ := info_parts info_byte2
  have HI := Lib.hid (And.intro hi (And.intro hz0 (And.intro hz1 hz2)))
  have HF := Lib.hid (arcOf_ok hE)
  have HCK := Lib.hid (EntsCheck_at b off cap l w hM hpos hle hm hc ho)
  rw [hE] at HCK
  have HEN := Lib.hid (fun k (hk : k < l.length) => (stepE_zero ((entsFault_all hE).2 k hk)).1)
  have hfew := (entsFault_all hE).1
  have HC := Lib.hid hc
  have HOK := Lib.hid ho
  have HM := Lib.hid hM
  have HT := Lib.hid hT
  have HE := Lib.hid hE
  have hcm := hm
  unfold maxLen at hm
  clear hM hT hE hc ho hi hz0 hz1 hz2
  go_enter Tryz.func14, Tryz.ntmps14
  go_wp2_with fail
  refine HCK.out.mono ?_
  rintro e wa ⟨rfl, hb⟩
  have HBA := Lib.hid hb
  clear hb
  have HTL := Lib.hid (fun k => arcTo_le HE.out k)
  go_wp2
  go_loopw [5, 7, 8, 9, 17] (fun v _ _ _ i wr => ∃ k : Nat, k ≤ l.length ∧ i = .int .i64 k ∧ Hid (OwnM 5 wr wa.heap.size v (arcTo l k)) ∧ Hid (Below wa.heap.size wa wr)) (fun _ _ _ _ i _ => l.length - (intOf i).toNat)
  case atStart => exact ⟨0, by omega, rfl, Lib.hid (OwnM.nil _ _ _), Lib.hid (Below.refl _ _)⟩
  case round =>
    obtain ⟨k, hk, rfl, HOW, HB⟩ := hrel
    by_cases hlt : k < l.length
    · have HS := Lib.hid (arcTo_succ hlt)
      have HBW := Lib.hid (HBA.out.trans (HB.out.mono HBA.out.size))
      obtain ⟨h0, h1, h2, h3, h4, h5, h6, h7, h8, h9, h10⟩ := (HC.out.below HBW.out) k hlt
      have HLN := Lib.hid (fun W (hb : Below w.heap.size w W) => MemW_ok (ek l k) W (HM.out.below hb) ((HOK.out k hlt).below hb) (HEN.out k hlt) (HT.out.below hb))
      have hml := memB_le (HEN.out k hlt)
      have htl := HTL.out k
      generalize ek l k = x at *
      have HBX := Lib.hid (HBW.out.alloc HBW.out.size (.cells #[.string x.path, .int .i64 x.kind, .string x.target, .int .i64 x.mt.mode, .int .i64 x.mt.uid, .int .i64 x.mt.gid, .string x.mt.user, .string x.mt.group, .int .i64 x.mt.second, .int .i64 x.mt.nano, .slice x.da x.data.length x.dcap] 26))
      have HBR := Lib.hid (HB.out.alloc HB.out.size (.cells #[.string x.path, .int .i64 x.kind, .string x.target, .int .i64 x.mt.mode, .int .i64 x.mt.uid, .int .i64 x.mt.gid, .string x.mt.user, .string x.mt.group, .int .i64 x.mt.second, .int .i64 x.mt.nano, .slice x.da x.data.length x.dcap] 26))
      have HOR := Lib.hid (HOW.out.below ((Below.refl wr.heap.size wr).alloc (Nat.le_refl _) (.cells #[.string x.path, .int .i64 x.kind, .string x.target, .int .i64 x.mt.mode, .int .i64 x.mt.uid, .int .i64 x.mt.gid, .string x.mt.user, .string x.mt.group, .int .i64 x.mt.second, .int .i64 x.mt.nano, .slice x.da x.data.length x.dcap] 26)))
      have HEB := Lib.hid (entAt_box wr x 26)
      obtain ⟨g0, g1, g2, g3, g4, g5, g6, g7, g8, g9, g10⟩ := HEB.out.zero
      go_wp2_with fail
      refine (HLN.out _ HBX.out).mono ?_
      rintro e w3 ⟨vm, rfl, ho, hb⟩
      simp only at ho ⊢
      have HSM := Lib.hid (ho.slice (N := maxLen) (by unfold maxLen; omega))
      have HB3 := Lib.hid (HBR.out.trans (hb.mono HBR.out.size))
      have HO3 := Lib.hid (HOR.out.below hb)
      clear ho hb h0 h1 h2 h3 h4 h5 h6 h7 h8 h9 h10 g0 g1 g2 g3 g4 g5 g6 g7 g8 g9 g10
      generalize memB x = mb at *
      go_wp2_with (at_builtin; refine wpList_appM rfl (.tmp 26) (.tmp 27) 24 24 rfl _ _ rfl rfl (fun ty => app_m _ 24 24 5 ty i0 Tryz.underlying24 HI.out.1 HI.out.2.1 HI.out.2.2.1 HI.out.2.2.2 HO3.out (src_bytes (N := maxLen) Tryz.underlying24 HSM.out) (by omega) HB3.out.size) ?_; intro v1 w4 ho hg; have HO4 := Lib.hid ho; have HB4 := Lib.hid (OwnM.grown HB3.out hg HO3.out HB3.out.size (Nat.le_refl _)); clear ho hg)
      go_roundw
      case rel => exact ⟨k + 1, by omega, by go_num, Lib.hid (by rw [HS.out]; exact HO4.out), HB4⟩
      case measure => simp [intOf]; omega
    · obtain rfl : k = l.length := by omega
      have HAL := Lib.hid (arcTo_all l)
      have HLE := Lib.hid (HTL.out l.length)
      have HSO := Lib.hid (HOW.out.slice (N := maxLen) (Nat.le_trans HLE.out (by decide)))
      go_wp2_with (at_builtin; refine wpList_appM rfl (.const (.slice none 0 0)) (.tmp 30) 24 24 rfl _ _ rfl rfl (fun ty => app_m _ 24 24 5 ty i0 Tryz.underlying24 HI.out.1 HI.out.2.1 HI.out.2.2.1 HI.out.2.2.2 (OwnM.nil 5 _ wa.heap.size) (src_bytes (N := maxLen) Tryz.underlying24 HSO.out) (by have := HLE.out; simp; omega) HB.out.size) ?_; intro v1 w4 ho hg; have HO4 := Lib.hid ho; have HB4 := Lib.hid (OwnM.grown HB.out hg (OwnM.nil 5 _ wa.heap.size) HB.out.size (Nat.le_refl _)); clear ho hg)
      refine (EndM_any w4).mono ?_
      rintro e w5 ⟨v5, rfl, ho, hb⟩
      have HS5 := Lib.hid (ho.slice (N := maxLen) (by rw [zeros1024_len]; decide))
      have HB5 := Lib.hid (HB4.out.trans (hb.mono HB4.out.size))
      have HO5 := Lib.hid (HO4.out.below hb)
      clear ho hb
      go_wp2_with (at_builtin; refine wpList_appM rfl (.tmp 31) (.tmp 32) 24 24 rfl _ _ rfl rfl (fun ty => app_m _ 24 24 5 ty i0 Tryz.underlying24 HI.out.1 HI.out.2.1 HI.out.2.2.1 HI.out.2.2.2 HO5.out (src_bytes (N := maxLen) Tryz.underlying24 HS5.out) (by rw [zeros1024_len]; have := HLE.out; simp; omega) HB5.out.size) ?_; intro v6 w6 ho hg; have HO6 := Lib.hid ho; have HB6 := Lib.hid (OwnM.grown HB5.out hg HO5.out HB5.out.size (Nat.le_refl _)); clear ho hg)
      go_ret2
      rw [HF.out]
      exact ⟨_, rfl, by rw [← HAL.out]; exact HO6.out.mono HBA.out.size, HBA.out.trans (HB6.out.mono HBA.out.size)⟩
set_option maxRecDepth 100000 in
theorem ArchiveL_bad (v : Value) (l : List Ent) (w : World) (hM : MaxOk w) (hE : ¬ entsFault l = 0) (h : SliceC maxLen 11 (EntC maxLen) w [v] l) :
    Calls Tryz.prog 14 #[v] w (RetM 5 w (arcOf l)) := by
  have HF := Lib.hid (arcOf_bad hE)
  have HCK := Lib.hid (EntsCheck_any v l w hM h)
  generalize entsFault l = q at *
  have hq : (q != 0) = true := by rw [bne_iff_ne]; exact hE
  clear hM hE h
  go_enter Tryz.func14, Tryz.ntmps14
  go_wp2_with fail
  refine HCK.out.mono ?_
  rintro e wa ⟨rfl, hb⟩
  have HBA := Lib.hid hb
  clear hb
  go_wp2
  go_ret2
  rw [HF.out]
  exact ⟨_, rfl, OwnM.nil _ _ _, HBA.out⟩
set_option maxRecDepth 100000 in
theorem ArchiveL_nil (a : Option Addr) (cap : Nat) (w : World) (hcp : cap ≤ maxLen) :
    Calls Tryz.prog 14 #[.slice a 0 cap] w (RetM 5 w (arcOf [])) := by
  obtain ⟨i0, hi, hz0, hz1, hz2⟩ := info_parts info_byte2
  have HI := Lib.hid (And.intro hi (And.intro hz0 (And.intro hz1 hz2)))
  have HF := Lib.hid (arcOf_ok entsFault_nil)
  have HCK := Lib.hid (EntsCheck_nil a cap w)
  clear hi hz0 hz1 hz2 hcp
  go_enter Tryz.func14, Tryz.ntmps14
  go_wp2_with fail
  refine HCK.out.mono ?_
  rintro e wa ⟨rfl, hb⟩
  have HBA := Lib.hid hb
  clear hb
  go_wp2
  go_loop [5, 7, 8, 9, 17] (fun v _ _ _ i => i = .int .i64 0 ∧ v = .slice none 0 0) (fun _ _ _ _ _ => 0)
  case atStart => exact ⟨rfl, rfl⟩
  case round =>
      obtain ⟨rfl, rfl⟩ := hrel
      have HAL := Lib.hid (show arcTo [] 0 = arcBody [] from rfl)
      have HLE : Hid ((arcTo [] 0).length ≤ 1200000) := Lib.hid (by rw [arcTo_zero]; simp)
      have HB := Lib.hid (Below.refl wa.heap.size wa)
      have HSO : Hid (SliceC maxLen 1 ByteC wa [.slice none 0 0] (arcTo [] 0)) := Lib.hid ((OwnM.nil 5 wa 0).slice (by simp))
      go_wp2_with (at_builtin; refine wpList_appM rfl (.const (.slice none 0 0)) (.tmp 30) 24 24 rfl _ _ rfl rfl (fun ty => app_m _ 24 24 5 ty i0 Tryz.underlying24 HI.out.1 HI.out.2.1 HI.out.2.2.1 HI.out.2.2.2 (OwnM.nil 5 _ wa.heap.size) (src_bytes (N := maxLen) Tryz.underlying24 HSO.out) (by have := HLE.out; simp; omega) HB.out.size) ?_; intro v1 w4 ho hg; have HO4 := Lib.hid ho; have HB4 := Lib.hid (OwnM.grown HB.out hg (OwnM.nil 5 _ wa.heap.size) HB.out.size (Nat.le_refl _)); clear ho hg)
      refine (EndM_any w4).mono ?_
      rintro e w5 ⟨v5, rfl, ho, hb⟩
      have HS5 := Lib.hid (ho.slice (N := maxLen) (by rw [zeros1024_len]; decide))
      have HB5 := Lib.hid (HB4.out.trans (hb.mono HB4.out.size))
      have HO5 := Lib.hid (HO4.out.below hb)
      clear ho hb
      go_wp2_with (at_builtin; refine wpList_appM rfl (.tmp 31) (.tmp 32) 24 24 rfl _ _ rfl rfl (fun ty => app_m _ 24 24 5 ty i0 Tryz.underlying24 HI.out.1 HI.out.2.1 HI.out.2.2.1 HI.out.2.2.2 HO5.out (src_bytes (N := maxLen) Tryz.underlying24 HS5.out) (by rw [zeros1024_len]; have := HLE.out; simp; omega) HB5.out.size) ?_; intro v6 w6 ho hg; have HO6 := Lib.hid ho; have HB6 := Lib.hid (OwnM.grown HB5.out hg HO5.out HB5.out.size (Nat.le_refl _)); clear ho hg)
      go_ret2
      rw [HF.out]
      exact ⟨_, rfl, by rw [← HAL.out]; exact HO6.out.mono HBA.out.size, HBA.out.trans (HB6.out.mono HBA.out.size)⟩
theorem ArchiveL_any (v : Value) (l : List Ent) (w : World) (hM : MaxOk w) (hT : Pow10 w) (h : SliceC maxLen 11 (EntC maxLen) w [v] l) :
    Calls Tryz.prog 14 #[v] w (RetM 5 w (arcOf l)) := by
  by_cases hE : entsFault l = 0
  · rcases ents_cases h with ⟨a, cap, rfl, rfl, hcp, _⟩ | ⟨b, off, cap, rfl, h1, h2, h3, _, h4, h5⟩
    · exact ArchiveL_nil a cap w hcp
    · exact ArchiveL_at b off cap l w hM hT hE h1 h2 h3 h4 h5
  · exact ArchiveL_bad v l w hM hE h
theorem src_ints {P : Program} {w : World} {t : TypeId} {B : Nat} {v : Value} {l : List Int} {tx e' : TypeId} (hk : P.underlying tx = some (.slice e')) (h : OwnIs t w B v l) : Src P 1 tx v l.length (l.map (Value.int .i64)) w := by
  rcases h.form with ⟨rfl, rfl⟩ | ⟨g, cap, rfl, _, _, _, _⟩
  · exact Src.ofNil w hk 0
  · refine Src.ofSlice w hk ⟨g, 0, none⟩ l.length cap _ (by simp) (fun j u hu => ?_) (fun u hu => by obtain ⟨_, _, rfl⟩ := List.mem_map.1 hu; rfl)
    have hj : j < l.length := by
      rcases Nat.lt_or_ge j l.length with h | h
      · exact h
      · rw [List.getElem?_eq_none (by simpa using h)] at hu; cases hu
    have e : (⟨g, 0, none⟩ : Addr).add j = ⟨g, j, none⟩ := by unfold Addr.add; split <;> simp_all
    rw [e, h.cell hj, ← hu, pieceI_eq hj]
    simp [List.getElem?_eq_getElem hj]
theorem ints_zero (w : World) : OwnIs 3 (w.alloc (.cells #[.int .i64 0] 3)) w.heap.size (.slice (some ⟨w.heap.size, 0, none⟩) 1 1) [0] :=
  World.ownsRow_lit w #[.int .i64 0] 1 (Nat.le_refl _) (by decide) rfl
set_option maxRecDepth 100000 in
set_option maxHeartbeats 2000000 in
theorem PlacesL_at (b off cap : Nat) (l : List Ent) (w : World) (hM : MaxOk w) (hT : Pow10 w) (hE : entsFault l = 0) (hpos : 0 < l.length) (hle : l.length ≤ cap) (hm : cap ≤ maxLen) (hc : EntsAt w b off l) (ho : ∀ i, i < l.length → (ek l i).Ok maxLen w) :
    Calls Tryz.prog 15 #[.slice (some ⟨b, off, none⟩) l.length cap] w (RetIE 3 w (placesOf l)) := by
  obtain ⟨i0, hi, hz0, hz1, hz2⟩ := info_parts info_int
  have HI := Lib.hid (And.intro hi (And.intro hz0 (And.intro hz1 hz2)))
  have HF := Lib.hid (placesOf_ok hE)
  have HCK := Lib.hid (EntsCheck_at b off cap l w hM hpos hle hm hc ho)
  rw [hE] at HCK
  have HEN := Lib.hid (fun k (hk : k < l.length) => (stepE_zero ((entsFault_all hE).2 k hk)).1)
  have hfew := (entsFault_all hE).1
  have HC := Lib.hid hc
  have HOK := Lib.hid ho
  have HM := Lib.hid hM
  have HT := Lib.hid hT
  have HE := Lib.hid hE
  have hcm := hm
  unfold maxLen at hm
  clear hM hT hE hc ho hi hz0 hz1 hz2
  go_enter Tryz.func15, Tryz.ntmps15
  go_wp2_with fail
  refine HCK.out.mono ?_
  rintro e wa ⟨rfl, hb⟩
  have HBA := Lib.hid hb
  clear hb
  have HTL := Lib.hid (fun k => arcTo_le HE.out k)
  have HI0 := Lib.hid (ints_zero wa)
  have HBI := Lib.hid ((Below.refl wa.heap.size wa).alloc (Nat.le_refl _) (.cells #[.int .i64 0] 3))
  go_wp2
  go_loopw [5, 6, 8, 9, 10, 19] (fun at_ v _ _ _ i wr => ∃ k : Nat, k ≤ l.length ∧ i = .int .i64 k ∧ at_ = .int .i64 (arcTo l k).length ∧ Hid (OwnIs 3 wr wa.heap.size v (placeTo l k)) ∧ Hid (Below wa.heap.size wa wr)) (fun _ _ _ _ _ i _ => l.length - (intOf i).toNat)
  case atStart => exact ⟨0, by omega, rfl, rfl, Lib.hid (by rw [placeTo_zero]; exact HI0.out), HBI⟩
  case round =>
    obtain ⟨k, hk, rfl, rfl, HOW, HB⟩ := hrel
    by_cases hlt : k < l.length
    · have HS := Lib.hid (placeTo_succ l k)
      have HS2 := Lib.hid (arcTo_succ hlt)
      have HBW := Lib.hid (HBA.out.trans (HB.out.mono HBA.out.size))
      obtain ⟨h0, h1, h2, h3, h4, h5, h6, h7, h8, h9, h10⟩ := (HC.out.below HBW.out) k hlt
      have HLN := Lib.hid (fun W (hb : Below w.heap.size w W) => MemW_ok (ek l k) W (HM.out.below hb) ((HOK.out k hlt).below hb) (HEN.out k hlt) (HT.out.below hb))
      have hml := memB_le (HEN.out k hlt)
      have htl := HTL.out k
      have hpl := placeTo_len l k
      generalize ek l k = x at *
      have HBX := Lib.hid (HBW.out.alloc HBW.out.size (.cells #[.string x.path, .int .i64 x.kind, .string x.target, .int .i64 x.mt.mode, .int .i64 x.mt.uid, .int .i64 x.mt.gid, .string x.mt.user, .string x.mt.group, .int .i64 x.mt.second, .int .i64 x.mt.nano, .slice x.da x.data.length x.dcap] 26))
      have HBR := Lib.hid (HB.out.alloc HB.out.size (.cells #[.string x.path, .int .i64 x.kind, .string x.target, .int .i64 x.mt.mode, .int .i64 x.mt.uid, .int .i64 x.mt.gid, .string x.mt.user, .string x.mt.group, .int .i64 x.mt.second, .int .i64 x.mt.nano, .slice x.da x.data.length x.dcap] 26))
      have HOR := Lib.hid (HOW.out.below ((Below.refl wr.heap.size wr).alloc (Nat.le_refl _) (.cells #[.string x.path, .int .i64 x.kind, .string x.target, .int .i64 x.mt.mode, .int .i64 x.mt.uid, .int .i64 x.mt.gid, .string x.mt.user, .string x.mt.group, .int .i64 x.mt.second, .int .i64 x.mt.nano, .slice x.da x.data.length x.dcap] 26)))
      have HEB := Lib.hid (entAt_box wr x 26)
      obtain ⟨g0, g1, g2, g3, g4, g5, g6, g7, g8, g9, g10⟩ := HEB.out.zero
      go_wp2_with fail
      refine (HLN.out _ HBX.out).mono ?_
      rintro e w3 ⟨vm, rfl, ho, hb⟩
      simp only at ho ⊢
      obtain ⟨am, cm, hvm, _⟩ := ho.form
      subst hvm
      have HB3 := Lib.hid (HBR.out.trans (hb.mono HBR.out.size))
      have HO3 := Lib.hid (HOR.out.below hb)
      clear ho hb h0 h1 h2 h3 h4 h5 h6 h7 h8 h9 h10 g0 g1 g2 g3 g4 g5 g6 g7 g8 g9 g10
      have HSUM : Hid (((arcTo l k).length : Int) + ((memB x).length : Int) = ((arcTo l (k + 1)).length : Int)) := Lib.hid (by rw [HS2.out, List.length_append]; omega)
      generalize (memB x).length = mb at *
      generalize (arcTo l k).length = at_ at *
      have HSZ := Lib.hid (Nat.le_trans HB3.out.size ((Below.refl w3.heap.size w3).alloc (Nat.le_refl _) (.cells #[.int .i64 ((at_ : Int) + (mb : Int))] 3)).size)
      have HOA := Lib.hid (World.ownsRow.alloc HO3.out (.cells #[.int .i64 ((at_ : Int) + (mb : Int))] 3))
      have HBAL := Lib.hid (HB3.out.alloc HB3.out.size (.cells #[.int .i64 ((at_ : Int) + (mb : Int))] 3))
      go_wp2_with (at_builtin; refine wpList_app _ rfl (.tmp 32) (.tmp 34) 34 34 rfl _ _ rfl rfl (n := (placeTo l k).length) (fun ty => app_src _ _ _ _ wa.heap.size 3 i0 (.int .i64 0) 1 8 Tryz.underlying34 HI.out.1 HI.out.2.1 HI.out.2.2.1 HI.out.2.2.2 rfl (by decide) _ _ _ _ _ _ HOA.out (src_one w3 _ _ _ Tryz.underlying34 _ rfl) (by unfold maxLen; omega) (by omega) HSZ.out) ?_; intro v1 w4 ho hg _)
      have HO4 := Lib.hid (OwnIs.app (m := [((at_ : Int) + (mb : Int))]) ho)
      have HB4 := Lib.hid (below_app HBAL.out hg HOA.out HSZ.out)
      clear ho hg
      go_wp2
      go_roundw
      case rel => exact ⟨k + 1, by omega, by go_num, by rw [← HSUM.out], Lib.hid (by rw [HS.out, ← HSUM.out]; exact HO4.out), HB4⟩
      case measure => simp [intOf]; omega
    · obtain rfl : k = l.length := by omega
      have hpl := placeTo_len l l.length
      go_wp2_with (at_builtin; refine wpList_app _ rfl (.const (.slice none 0 0)) (.tmp 37) 34 34 rfl _ _ rfl rfl (n := 0) (fun ty => app_src _ 34 34 ty wa.heap.size 3 i0 (.int .i64 0) 1 8 Tryz.underlying34 HI.out.1 HI.out.2.1 HI.out.2.2.1 HI.out.2.2.2 rfl (by decide) _ _ _ _ _ _ (World.ownsRow_nil wr wa.heap.size 3 1) (src_ints Tryz.underlying34 HOW.out) (by rw [placeTo_len]; unfold maxLen; omega) (by rw [placeTo_len]; omega) HB.out.size) ?_; intro v1 w4 ho hg _; have HO4 := Lib.hid (OwnIs.app (l := []) (m := (placeTo l l.length)) ho); have HB4 := Lib.hid (below_app HB.out hg (World.ownsRow_nil wr wa.heap.size 3 1) HB.out.size); clear ho hg)
      go_ret2
      rw [HF.out]
      exact ⟨_, rfl, by have e := HO4.out; simp only [List.nil_append] at e; exact OwnIs.mono e HBA.out.size, HBA.out.trans (HB4.out.mono HBA.out.size)⟩
set_option maxRecDepth 100000 in
theorem PlacesL_bad (v : Value) (l : List Ent) (w : World) (hM : MaxOk w) (hE : ¬ entsFault l = 0) (h : SliceC maxLen 11 (EntC maxLen) w [v] l) :
    Calls Tryz.prog 15 #[v] w (RetIE 3 w (placesOf l)) := by
  have HF := Lib.hid (placesOf_bad hE)
  have HCK := Lib.hid (EntsCheck_any v l w hM h)
  generalize entsFault l = q at *
  have hq : (q != 0) = true := by rw [bne_iff_ne]; exact hE
  clear hM hE h
  go_enter Tryz.func15, Tryz.ntmps15
  go_wp2_with fail
  refine HCK.out.mono ?_
  rintro e wa ⟨rfl, hb⟩
  have HBA := Lib.hid hb
  clear hb
  go_wp2
  go_ret2
  rw [HF.out]
  exact ⟨_, rfl, World.ownsRow_nil _ _ _ 1, HBA.out⟩
set_option maxRecDepth 100000 in
theorem PlacesL_nil (a : Option Addr) (cap : Nat) (w : World) (hcp : cap ≤ maxLen) :
    Calls Tryz.prog 15 #[.slice a 0 cap] w (RetIE 3 w (placesOf [])) := by
  obtain ⟨i0, hi, hz0, hz1, hz2⟩ := info_parts info_int
  have HI := Lib.hid (And.intro hi (And.intro hz0 (And.intro hz1 hz2)))
  have HF := Lib.hid (placesOf_ok entsFault_nil)
  have HCK := Lib.hid (EntsCheck_nil a cap w)
  clear hi hz0 hz1 hz2 hcp
  go_enter Tryz.func15, Tryz.ntmps15
  go_wp2_with fail
  refine HCK.out.mono ?_
  rintro e wa ⟨rfl, hb⟩
  have HBA := Lib.hid hb
  clear hb
  have HI0 := Lib.hid (ints_zero wa)
  have HBI := Lib.hid ((Below.refl wa.heap.size wa).alloc (Nat.le_refl _) (.cells #[.int .i64 0] 3))
  go_wp2
  go_loopw [5, 6, 8, 9, 10, 19] (fun _ v _ _ _ i wr => i = .int .i64 0 ∧ Hid (OwnIs 3 wr wa.heap.size v (placeTo [] ([] : List Ent).length)) ∧ Hid (Below wa.heap.size wa wr)) (fun _ _ _ _ _ _ _ => 0)
  case atStart => exact ⟨rfl, Lib.hid (by rw [show ([] : List Ent).length = 0 from rfl, placeTo_zero]; exact HI0.out), HBI⟩
  case round =>
      obtain ⟨rfl, HOW, HB⟩ := hrel
      obtain ⟨l, hl⟩ : ∃ l : List Ent, l = [] := ⟨_, rfl⟩
      rw [← hl] at HOW HF ⊢
      have hfew : l.length ≤ 40 := by rw [hl]; simp
      have hpl := placeTo_len l l.length
      go_wp2_with (at_builtin; refine wpList_app _ rfl (.const (.slice none 0 0)) (.tmp 37) 34 34 rfl _ _ rfl rfl (n := 0) (fun ty => app_src _ 34 34 ty wa.heap.size 3 i0 (.int .i64 0) 1 8 Tryz.underlying34 HI.out.1 HI.out.2.1 HI.out.2.2.1 HI.out.2.2.2 rfl (by decide) _ _ _ _ _ _ (World.ownsRow_nil wr wa.heap.size 3 1) (src_ints Tryz.underlying34 HOW.out) (by rw [placeTo_len]; unfold maxLen; omega) (by rw [placeTo_len]; omega) HB.out.size) ?_; intro v1 w4 ho hg _; have HO4 := Lib.hid (OwnIs.app (l := []) (m := (placeTo l l.length)) ho); have HB4 := Lib.hid (below_app HB.out hg (World.ownsRow_nil wr wa.heap.size 3 1) HB.out.size); clear ho hg)
      go_ret2
      subst hl
      rw [HF.out]
      exact ⟨_, rfl, by have e := HO4.out; simp only [List.nil_append] at e; exact OwnIs.mono e HBA.out.size, HBA.out.trans (HB4.out.mono HBA.out.size)⟩
theorem PlacesL_any (v : Value) (l : List Ent) (w : World) (hM : MaxOk w) (hT : Pow10 w) (h : SliceC maxLen 11 (EntC maxLen) w [v] l) :
    Calls Tryz.prog 15 #[v] w (RetIE 3 w (placesOf l)) := by
  by_cases hE : entsFault l = 0
  · rcases ents_cases h with ⟨a, cap, rfl, rfl, hcp, _⟩ | ⟨b, off, cap, rfl, h1, h2, h3, _, h4, h5⟩
    · exact PlacesL_nil a cap w hcp
    · exact PlacesL_at b off cap l w hM hT hE h1 h2 h3 h4 h5
  · exact PlacesL_bad v l w hM hE h
end Go.Proofs.YtaffgndickdbiaaGreatDoor
namespace Go.Creel
theorem addr_zeroE (a : Option Addr) : a.map (·.add 0) = a := by cases a <;> simp [Addr.add]
end Go.Creel
namespace Go.Proofs.YtaffgndickdbiaaGreatDoor
open Go.Creel Go.RowKit
set_option maxRecDepth 100000 in
set_option maxHeartbeats 2000000 in
theorem ArcR_at (b off cap : Nat) (l : List Ent) (w : World) (hM : MaxOk w) (hT : Pow10 w) (hE : entsFault l = 0) (hpos : 0 < l.length) (hle : l.length ≤ cap) (hm : cap ≤ maxLen) (hc : EntsAt w b off l) (ho : ∀ i, i < l.length → (ek l i).Ok maxLen w) :
    Calls Tryz.prog 16 #[.slice (some ⟨b, off, none⟩) l.length cap] w (RetM 5 w (arcOf l)) := by
  obtain ⟨i0, hi, hz0, hz1, hz2⟩ := info_parts info_byte2
  have HI := Lib.hid (And.intro hi (And.intro hz0 (And.intro hz1 hz2)))
  have HF := Lib.hid (arcOf_ok hE)
  have HCK := Lib.hid (EntsFault_at b off cap l w hpos hle hm hc ho)
  rw [hE] at HCK
  have HEN := Lib.hid (fun k (hk : k < l.length) => (stepE_zero ((entsFault_all hE).2 k hk)).1)
  have hfew := (entsFault_all hE).1
  have HC := Lib.hid hc
  have HOK := Lib.hid ho
  have HM := Lib.hid hM
  have HT := Lib.hid hT
  have HE := Lib.hid hE
  have hcm := hm
  unfold maxLen at hm
  clear hM hT hE hc ho hi hz0 hz1 hz2
  go_enter Tryz.func16, Tryz.ntmps16
  go_wp2_with fail
  refine HCK.out.mono ?_
  rintro e wa ⟨rfl, hb⟩
  have HBA := Lib.hid hb
  clear hb
  have hmk : ∀ w : World, (Instr.makeSlice 24 (.int .i64 1024) (.int .i64 1024)).run Tryz.prog w = .ok (.slice (some ⟨w.heap.size, 0, none⟩) 1024 1024) (w.alloc (.cells (madeCells #[.int .u8 0] 1024) 5)) := fun w => run_make_bytes (P := Tryz.prog) w 24 5 i0 Tryz.underlying24 HI.out.1 HI.out.2.1 HI.out.2.2.1 HI.out.2.2.2 1024 (by omega)
  have HO0 : Hid (OwnM 5 (wa.alloc (.cells (madeCells #[.int .u8 0] 1024) 5)) wa.heap.size (.slice (some ⟨wa.heap.size, 0, none⟩) 1024 1024) zeros1024) := Lib.hid (OwnBs.marked (by
    have e := ownB_made (t := 5) wa 1024 (by decide)
    unfold OwnB at e
    unfold OwnBs zeros1024
    simp only [List.length_replicate] at e ⊢
    exact e))
  have HB0 := Lib.hid ((Below.refl wa.heap.size wa).alloc (Nat.le_refl _) (.cells (madeCells #[.int .u8 0] 1024) 5))
  have HTL := Lib.hid (fun k => arcFrom_le HE.out k)
  go_upto_region 6 with fail
  generalize wa.alloc (.cells (madeCells #[.int .u8 0] 1024) 5) = wz at *
  clear hmk
  go_loopw [5, 6, 7, 8] (fun v i _ _ wr => ∃ k : Nat, k ≤ l.length ∧ i = .int .i64 ((k : Int) - 1) ∧ Hid (OwnM 5 wr wa.heap.size v (arcFrom l k ++ zeros1024)) ∧ Hid (Below wa.heap.size wa wr)) (fun _ i _ _ _ => ((intOf i) + 1).toNat)
  case atStart => exact ⟨l.length, by omega, rfl, Lib.hid (by rw [arcFrom_all, List.nil_append]; exact HO0.out), HB0⟩
  case round =>
    obtain ⟨k, hk, rfl, HOW, HB⟩ := hrel
    by_cases hk0 : k = 0
    · subst hk0
      go_wp2
      go_ret2
      rw [HF.out]
      exact ⟨_, rfl, by have e := HOW.out; rw [arcFrom_zero] at e; exact e.mono HBA.out.size, HBA.out.trans (HB.out.mono HBA.out.size)⟩
    · obtain ⟨j, rfl⟩ : ∃ j, k = j + 1 := ⟨k - 1, by omega⟩
      have hjl : j < l.length := by omega
      have HS := Lib.hid (arcFrom_pred hjl)
      have HBW := Lib.hid (HBA.out.trans (HB.out.mono HBA.out.size))
      obtain ⟨h0, h1, h2, h3, h4, h5, h6, h7, h8, h9, h10⟩ := (HC.out.below HBW.out) j hjl
      have HLN := Lib.hid (fun W (hb : Below w.heap.size w W) => MemB_ok (ek l j) W ((HOK.out j hjl).below hb) (HEN.out j hjl) (HT.out.below hb))
      have hml := memB_le (HEN.out j hjl)
      have htl := HTL.out (j + 1)
      have e1 : (((j + 1 : Nat) : Int) - 1) = (j : Int) := by omega
      rw [e1]
      clear hk hk0
      generalize ek l j = x at *
      go_wp2_with fail
      refine (HLN.out _ HBW.out).mono ?_
      rintro e w3 ⟨vm, rfl, ho, hb⟩
      simp only at ho ⊢
      have HOV := Lib.hid (ho.mono HB.out.size)
      have HB3 := Lib.hid (HB.out.trans (hb.mono HB.out.size))
      have HSO := Lib.hid ((HOW.out.below hb).slice (N := maxLen) (by rw [List.length_append, zeros1024_len]; unfold maxLen; omega))
      clear ho hb h0 h1 h2 h3 h4 h5 h6 h7 h8 h9 h10
      generalize memB x = mb at *
      go_wp2_with (at_builtin; refine wpList_appM rfl (.tmp 30) (.tmp 31) 24 24 rfl _ _ rfl rfl (fun ty => app_m _ 24 24 5 ty i0 Tryz.underlying24 HI.out.1 HI.out.2.1 HI.out.2.2.1 HI.out.2.2.2 HOV.out (src_bytes (N := maxLen) Tryz.underlying24 HSO.out) (by rw [List.length_append, zeros1024_len]; omega) HB3.out.size) ?_; intro v1 w4 ho hg; have HO4 := Lib.hid ho; have HB4 := Lib.hid (OwnM.grown HB3.out hg HOV.out HB3.out.size (Nat.le_refl _)); clear ho hg)
      go_roundw
      case rel => exact ⟨j, by omega, by go_num, Lib.hid (by rw [HS.out, List.append_assoc]; exact HO4.out), HB4⟩
      case measure => simp only [intOf]; omega
set_option maxRecDepth 100000 in
theorem ArcR_bad (v : Value) (l : List Ent) (w : World) (hM : MaxOk w) (hE : ¬ entsFault l = 0) (h : SliceC maxLen 11 (EntC maxLen) w [v] l) :
    Calls Tryz.prog 16 #[v] w (RetM 5 w (arcOf l)) := by
  have HF := Lib.hid (arcOf_bad hE)
  have HCK := Lib.hid (EntsFault_any v l w h)
  generalize entsFault l = q at *
  have hq : (q != 0) = true := by rw [bne_iff_ne]; exact hE
  clear hM hE h
  go_enter Tryz.func16, Tryz.ntmps16
  go_wp2_with fail
  refine HCK.out.mono ?_
  rintro e wa ⟨rfl, hb⟩
  have HBA := Lib.hid hb
  clear hb
  go_wp2
  go_ret2
  rw [HF.out]
  exact ⟨_, rfl, OwnM.nil _ _ _, HBA.out⟩
set_option maxRecDepth 100000 in
theorem ArcR_nil (a : Option Addr) (cap : Nat) (w : World) (hcp : cap ≤ maxLen) :
    Calls Tryz.prog 16 #[.slice a 0 cap] w (RetM 5 w (arcOf [])) := by
  obtain ⟨i0, hi, hz0, hz1, hz2⟩ := info_parts info_byte2
  have HI := Lib.hid (And.intro hi (And.intro hz0 (And.intro hz1 hz2)))
  have HF := Lib.hid (arcOf_ok entsFault_nil)
  have HCK := Lib.hid ((EntsFault_nil a cap w).mono fun e w2 (hh : e = .returned (.int .i64 0) ∧ w = w2) => (⟨hh.1, by rw [← hh.2]; exact Below.refl _ _⟩ : e = .returned (.int .i64 0) ∧ Below w.heap.size w w2))
  clear hi hz0 hz1 hz2 hcp
  go_enter Tryz.func16, Tryz.ntmps16
  go_wp2_with fail
  refine HCK.out.mono ?_
  rintro e wa ⟨rfl, hb⟩
  have HBA := Lib.hid hb
  clear hb
  have hmk : ∀ w : World, (Instr.makeSlice 24 (.int .i64 1024) (.int .i64 1024)).run Tryz.prog w = .ok (.slice (some ⟨w.heap.size, 0, none⟩) 1024 1024) (w.alloc (.cells (madeCells #[.int .u8 0] 1024) 5)) := fun w => run_make_bytes (P := Tryz.prog) w 24 5 i0 Tryz.underlying24 HI.out.1 HI.out.2.1 HI.out.2.2.1 HI.out.2.2.2 1024 (by omega)
  have HO0 : Hid (OwnM 5 (wa.alloc (.cells (madeCells #[.int .u8 0] 1024) 5)) wa.heap.size (.slice (some ⟨wa.heap.size, 0, none⟩) 1024 1024) zeros1024) := Lib.hid (OwnBs.marked (by
    have e := ownB_made (t := 5) wa 1024 (by decide)
    unfold OwnB at e
    unfold OwnBs zeros1024
    simp only [List.length_replicate] at e ⊢
    exact e))
  have HB0 := Lib.hid ((Below.refl wa.heap.size wa).alloc (Nat.le_refl _) (.cells (madeCells #[.int .u8 0] 1024) 5))
  go_upto_region 6 with fail
  generalize wa.alloc (.cells (madeCells #[.int .u8 0] 1024) 5) = wz at *
  clear hmk
  go_loopw [5, 6, 7, 8] (fun v i _ _ wr => i = .int .i64 (-1) ∧ Hid (OwnM 5 wr wa.heap.size v zeros1024) ∧ Hid (Below wa.heap.size wa wr)) (fun _ _ _ _ _ => 0)
  case atStart => exact ⟨rfl, HO0, HB0⟩
  case round =>
    obtain ⟨rfl, HOW, HB⟩ := hrel
    go_wp2
    go_ret2
    rw [HF.out]
    exact ⟨_, rfl, HOW.out.mono HBA.out.size, HBA.out.trans (HB.out.mono HBA.out.size)⟩
theorem ArcR_any (v : Value) (l : List Ent) (w : World) (hM : MaxOk w) (hT : Pow10 w) (h : SliceC maxLen 11 (EntC maxLen) w [v] l) :
    Calls Tryz.prog 16 #[v] w (RetM 5 w (arcOf l)) := by
  by_cases hE : entsFault l = 0
  · rcases ents_cases h with ⟨a, cap, rfl, rfl, hcp, _⟩ | ⟨b, off, cap, rfl, h1, h2, h3, _, h4, h5⟩
    · exact ArcR_nil a cap w hcp
    · exact ArcR_at b off cap l w hM hT hE h1 h2 h3 h4 h5
  · exact ArcR_bad v l w hM hE h
theorem run_takeE (w : World) (a : Option Addr) (n cap i : Nat) (h : i ≤ n) (hc : n ≤ cap) : (Instr.slice 32 (.slice a n cap) none (some (.int .i64 i)) none).run Tryz.prog w = .ok (.slice a i cap) w := by
  rw [run_slice_h w 32 a n cap (by kernel_rfl) .i64 i (by omega) (by omega)]
  have hs : (sizeOf (Tryz.prog.elem 32)).run Tryz.prog w = .ok 11 w := by kernel_rfl
  rw [hs]
  simp only [Result.andThen, sliced, Int.toNat_natCast, Nat.zero_mul, addr_zeroE, ite_self, Nat.sub_zero]
set_option maxRecDepth 100000 in
set_option maxHeartbeats 2000000 in
theorem ArcPlacesR_at (b off cap : Nat) (l : List Ent) (w : World) (hM : MaxOk w) (hT : Pow10 w) (hE : entsFault l = 0) (hpos : 0 < l.length) (hle : l.length ≤ cap) (hm : cap ≤ maxLen) (hc : EntsAt w b off l) (ho : ∀ i, i < l.length → (ek l i).Ok maxLen w) (h : SliceC maxLen 11 (EntC maxLen) w [.slice (some ⟨b, off, none⟩) l.length cap] l) :
    Calls Tryz.prog 17 #[.slice (some ⟨b, off, none⟩) l.length cap] w (RetIE 3 w (placesOf l)) := by
  obtain ⟨i0, hi, hz0, hz1, hz2⟩ := info_parts info_int
  have HI := Lib.hid (And.intro hi (And.intro hz0 (And.intro hz1 hz2)))
  have HF := Lib.hid (placesOf_ok hE)
  have HCK := Lib.hid (EntsFault_at b off cap l w hpos hle hm hc ho)
  rw [hE] at HCK
  have HEN := Lib.hid (fun k (hk : k < l.length) => (stepE_zero ((entsFault_all hE).2 k hk)).1)
  have hfew := (entsFault_all hE).1
  have HC := Lib.hid hc
  have HOK := Lib.hid ho
  have HM := Lib.hid hM
  have HT := Lib.hid hT
  have HE := Lib.hid hE
  have hcm := hm
  unfold maxLen at hm
  clear hM hT hE hc ho hi hz0 hz1 hz2
  go_enter Tryz.func17, Tryz.ntmps17
  go_wp2_with fail
  refine HCK.out.mono ?_
  rintro e wa ⟨rfl, hb⟩
  have HBA := Lib.hid hb
  clear hb
  have H := Lib.hid h
  clear h
  have HTL := Lib.hid (fun k => arcTo_le HE.out k)
  have HI0 := Lib.hid (ints_zero wa)
  have HBI := Lib.hid ((Below.refl wa.heap.size wa).alloc (Nat.le_refl _) (.cells #[.int .i64 0] 3))
  go_wp2
  go_loopw [5, 6, 7, 8] (fun v i _ _ wr => ∃ k : Nat, k ≤ l.length ∧ i = .int .i64 ((k : Int) + 1) ∧ Hid (OwnIs 3 wr wa.heap.size v (placeTo l k)) ∧ Hid (Below wa.heap.size wa wr)) (fun _ i _ _ _ => l.length + 1 - (intOf i).toNat)
  case atStart => exact ⟨0, by omega, rfl, Lib.hid (by rw [placeTo_zero]; exact HI0.out), HBI⟩
  case round =>
    obtain ⟨k, hk, rfl, HOW, HB⟩ := hrel
    have hpl := placeTo_len l k
    by_cases hlt : k < l.length
    · have HS := Lib.hid (placeTo_succ l k)
      have HBW := Lib.hid (HBA.out.trans (HB.out.mono HBA.out.size))
      have hsl := fun W => run_takeE W (some ⟨b, off, none⟩) l.length cap (k + 1) (by omega) (by omega)
      have HTK := Lib.hid (ArcR_any _ (l.take (k + 1)) wr (HM.out.below HBW.out) (HT.out.below HBW.out) (ents_take (i := k + 1) (ents_below H.out HBW.out) (by omega)))
      rw [arcOf_ok (entsFault_take HE.out (k + 1))] at HTK
      have htl := HTL.out (k + 1)
      have HLN : Hid ((arcBody (l.take (k + 1)) ++ zeros1024).length = (arcTo l (k + 1)).length + 1024) := Lib.hid (by rw [List.length_append, zeros1024_len]; rfl)
      have e1 : ((k : Int) + 1) = ((k + 1 : Nat) : Int) := by omega
      rw [e1]
      have hle2 : k + 1 ≤ l.length := by omega
      generalize hjk : k + 1 = j at *
      go_wp2_with fail
      refine HTK.out.mono ?_
      rintro e w3 ⟨vm, rfl, ho, hb⟩
      simp only at ho ⊢
      obtain ⟨am, cm, hvm, _⟩ := ho.form
      rw [HLN.out] at hvm
      subst hvm
      have HB3 := Lib.hid (HB.out.trans (hb.mono HB.out.size))
      have HO3 := Lib.hid (HOW.out.below hb)
      clear ho hb
      generalize (arcTo l j).length = at_ at *
      have e2 : (((at_ + 1024 : Nat) : Int) - 1024) = (at_ : Int) := by omega
      have HSZ := Lib.hid (Nat.le_trans HB3.out.size ((Below.refl w3.heap.size w3).alloc (Nat.le_refl _) (.cells #[.int .i64 (at_ : Int)] 3)).size)
      have HOA := Lib.hid (World.ownsRow.alloc HO3.out (.cells #[.int .i64 (at_ : Int)] 3))
      have HBAL := Lib.hid (HB3.out.alloc HB3.out.size (.cells #[.int .i64 (at_ : Int)] 3))
      go_wp2_with (at_builtin; refine wpList_app _ rfl (.tmp 28) (.tmp 32) 34 34 rfl _ _ rfl rfl (n := (placeTo l k).length) (fun ty => app_src _ _ _ _ wa.heap.size 3 i0 (.int .i64 0) 1 8 Tryz.underlying34 HI.out.1 HI.out.2.1 HI.out.2.2.1 HI.out.2.2.2 rfl (by decide) _ _ _ _ _ _ HOA.out (src_one w3 _ _ _ Tryz.underlying34 _ rfl) (by unfold maxLen; omega) (by omega) HSZ.out) ?_; intro v1 w4 ho hg _)
      have HO4 := Lib.hid (OwnIs.app (m := [(at_ : Int)]) ho)
      have HB4 := Lib.hid (below_app HBAL.out hg HOA.out HSZ.out)
      clear ho hg
      go_wp2
      go_roundw
      case rel => exact ⟨j, by omega, by go_num, Lib.hid (by rw [HS.out]; exact HO4.out), HB4⟩
      case measure => simp only [intOf]; omega
    · obtain rfl : k = l.length := by omega
      go_wp2
      go_ret2
      rw [HF.out]
      exact ⟨_, rfl, OwnIs.mono HOW.out HBA.out.size, HBA.out.trans (HB.out.mono HBA.out.size)⟩
set_option maxRecDepth 100000 in
theorem ArcPlacesR_bad (v : Value) (l : List Ent) (w : World) (hM : MaxOk w) (hE : ¬ entsFault l = 0) (h : SliceC maxLen 11 (EntC maxLen) w [v] l) :
    Calls Tryz.prog 17 #[v] w (RetIE 3 w (placesOf l)) := by
  have HF := Lib.hid (placesOf_bad hE)
  have HCK := Lib.hid (EntsFault_any v l w h)
  generalize entsFault l = q at *
  have hq : (q != 0) = true := by rw [bne_iff_ne]; exact hE
  clear hM hE h
  go_enter Tryz.func17, Tryz.ntmps17
  go_wp2_with fail
  refine HCK.out.mono ?_
  rintro e wa ⟨rfl, hb⟩
  have HBA := Lib.hid hb
  clear hb
  go_wp2
  go_ret2
  rw [HF.out]
  exact ⟨_, rfl, World.ownsRow_nil _ _ _ 1, HBA.out⟩
set_option maxRecDepth 100000 in
theorem ArcPlacesR_nil (a : Option Addr) (cap : Nat) (w : World) (hcp : cap ≤ maxLen) :
    Calls Tryz.prog 17 #[.slice a 0 cap] w (RetIE 3 w (placesOf [])) := by
  have HF := Lib.hid (placesOf_ok entsFault_nil)
  have HCK := Lib.hid ((EntsFault_nil a cap w).mono fun e w2 (hh : e = .returned (.int .i64 0) ∧ w = w2) => (⟨hh.1, by rw [← hh.2]; exact Below.refl _ _⟩ : e = .returned (.int .i64 0) ∧ Below w.heap.size w w2))
  clear hcp
  go_enter Tryz.func17, Tryz.ntmps17
  go_wp2_with fail
  refine HCK.out.mono ?_
  rintro e wa ⟨rfl, hb⟩
  have HBA := Lib.hid hb
  clear hb
  have HI0 := Lib.hid (ints_zero wa)
  have HBI := Lib.hid ((Below.refl wa.heap.size wa).alloc (Nat.le_refl _) (.cells #[.int .i64 0] 3))
  go_wp2
  go_loopw [5, 6, 7, 8] (fun v i _ _ wr => i = .int .i64 1 ∧ Hid (OwnIs 3 wr wa.heap.size v [0]) ∧ Hid (Below wa.heap.size wa wr)) (fun _ _ _ _ _ => 0)
  case atStart => exact ⟨rfl, HI0, HBI⟩
  case round =>
    obtain ⟨rfl, HOW, HB⟩ := hrel
    go_wp2
    go_ret2
    rw [HF.out]
    exact ⟨_, rfl, by rw [show ([] : List Ent).length = 0 from rfl, placeTo_zero]; exact OwnIs.mono HOW.out HBA.out.size, HBA.out.trans (HB.out.mono HBA.out.size)⟩
theorem ArcPlacesR_any (v : Value) (l : List Ent) (w : World) (hM : MaxOk w) (hT : Pow10 w) (h : SliceC maxLen 11 (EntC maxLen) w [v] l) :
    Calls Tryz.prog 17 #[v] w (RetIE 3 w (placesOf l)) := by
  by_cases hE : entsFault l = 0
  · rcases ents_cases h with ⟨a, cap, rfl, rfl, hcp, _⟩ | ⟨b, off, cap, rfl, h1, h2, h3, _, h4, h5⟩
    · exact ArcPlacesR_nil a cap w hcp
    · exact ArcPlacesR_at b off cap l w hM hT hE h1 h2 h3 h4 h5 h
  · exact ArcPlacesR_bad v l w hM hE h
end Go.Proofs.YtaffgndickdbiaaGreatDoor
