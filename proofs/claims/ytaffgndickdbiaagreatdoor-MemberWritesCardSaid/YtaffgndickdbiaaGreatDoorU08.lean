/-
  Texts: PackL, Zeros, Field.
-/
import Derived.Test.YtaffgndickdbiaaGreatDoorU07
import Derived.Deep.CutRange
import Derived.Deep.RegionHeld3
import Derived.Laws.ResultCell
set_option linter.unusedVariables false
set_option linter.unusedSimpArgs false
set_option linter.unusedSectionVars false
namespace Go.Creel
noncomputable def hd0 (x : Ent) : HeadN := ⟨ByteArray.empty, ByteArray.empty, ByteArray.empty, x.mt.mode, 0, 0, x.data.length, 0, kindT x.kind, ByteArray.empty, ByteArray.empty⟩
noncomputable def hd1 (x : Ent) : HeadN := { hd0 x with gid := hidNum x.mt.gid 2097151 }
noncomputable def hd2 (x : Ent) : HeadN := { hd1 x with group := hidText x.mt.group 31 ⟨#[]⟩ }
noncomputable def hd3 (x : Ent) : HeadN := { hd2 x with lk := hidText x.target 100 sLong }
noncomputable def hd4 (x : Ent) : HeadN := { hd3 x with time := hidTime x.mt }
noncomputable def hd5 (x : Ent) : HeadN := { hd4 x with px := (cutTwo x.path).1, nm := (cutTwo x.path).2.1 }
noncomputable def hd6 (x : Ent) : HeadN := { hd4 x with px := (cutTwo x.path).1, nm := hidPath x.path }
noncomputable def hd7 (x : Ent) : HeadN := { hd6 x with uid := hidNum x.mt.uid 2097151 }
noncomputable def hd8 (x : Ent) : HeadN := { hd7 x with user := hidText x.mt.user 31 ⟨#[]⟩ }
noncomputable def rl1 (x : Ent) : List Rec := recNum kGid x.mt.gid 2097151
noncomputable def rl2 (x : Ent) : List Rec := rl1 x ++ recText1 kGname x.mt.group 31
noncomputable def rl3 (x : Ent) : List Rec := rl2 x ++ recText1 kLink x.target 100
noncomputable def rl4 (x : Ent) : List Rec := rl3 x ++ recTime x.mt
noncomputable def rl5 (x : Ent) : List Rec := rl4 x ++ recPath x.path
noncomputable def rl6 (x : Ent) : List Rec := rl5 x ++ recNum kUid x.mt.uid 2097151
noncomputable def rl7 (x : Ent) : List Rec := rl6 x ++ recText1 kUname x.mt.user 31
theorem rl7_eq (x : Ent) : rl7 x = memRecs x := rfl
theorem rl1_len (x : Ent) : (rl1 x).length ≤ 1 := recNum_len _ _ _
theorem rl2_len (x : Ent) : (rl2 x).length ≤ 2 := more_len (rl1_len x) (recText1_len _ _ _)
theorem rl3_len (x : Ent) : (rl3 x).length ≤ 3 := more_len (rl2_len x) (recText1_len _ _ _)
theorem rl4_len (x : Ent) : (rl4 x).length ≤ 4 := more_len (rl3_len x) (recTime_len _)
theorem rl5_len (x : Ent) : (rl5 x).length ≤ 5 := more_len (rl4_len x) (recPath_len _)
theorem rl6_len (x : Ent) : (rl6 x).length ≤ 6 := more_len (rl5_len x) (recNum_len _ _ _)
theorem rl7_len (x : Ent) : (rl7 x).length ≤ 7 := more_len (rl6_len x) (recText1_len _ _ _)
theorem timeOdd_bool (m : Meta) : decide (timeOdd m) = (decide (0 < m.nano) || (decide (m.second < 0) || decide (8589934591 < m.second))) := by
  by_cases h1 : 0 < m.nano <;> by_cases h2 : m.second < 0 <;> by_cases h3 : 8589934591 < m.second <;> simp [timeOdd, h1, h2, h3]
theorem recTime_yes {m : Meta} (h : timeOdd m) : recTime m = [⟨kMtime, (timeText m.second m.nano).1⟩] ∧ hidTime m = 0 := ⟨if_pos h, if_pos h⟩
theorem recTime_no {m : Meta} (h : ¬ timeOdd m) : recTime m = [] ∧ hidTime m = m.second := ⟨if_neg h, if_neg h⟩
theorem recPath_yes {s : ByteArray} (h : ¬ (cutTwo s).2.2 = 0) : recPath s = [⟨kPath, s⟩] ∧ hidPath s = sLong := ⟨if_neg h, if_neg h⟩
theorem recPath_no {s : ByteArray} (h : (cutTwo s).2.2 = 0) : recPath s = [] ∧ hidPath s = (cutTwo s).2.1 := ⟨if_pos h, if_pos h⟩
end Go.Creel
namespace Go.Proofs.YtaffgndickdbiaaGreatDoor
open Go.Creel Go.RowKit
set_option maxRecDepth 100000 in
set_option maxHeartbeats 4000000 in
theorem Pack_any (x : Ent) (w : World) (HR : Hid (EntRight x)) (hT : Pow10 w) :
    Calls Tryz.prog 37 #[x.val] w fun e w' => ∃ b v, e = .returned (.pointer (some ⟨b, 0, none⟩)) ∧ RecSt tRecE tPk w w' b (pcells (memHead x) v) v (memRecs x) := by
  have HBX := Lib.hid ((Below.refl w.heap.size w).alloc (Nat.le_refl _) (.cells #[.string x.path, .int .i64 x.kind, .string x.target, .int .i64 x.mt.mode, .int .i64 x.mt.uid, .int .i64 x.mt.gid, .string x.mt.user, .string x.mt.group, .int .i64 x.mt.second, .int .i64 x.mt.nano, .slice x.da x.data.length x.dcap] 26))
  have HEB := Lib.hid (entAt_box w x 26)
  have HP := Lib.hid (hT.below HBX.out)
  have HWS : Hid (w.heap.size ≤ (w.alloc (.cells #[.string x.path, .int .i64 x.kind, .string x.target, .int .i64 x.mt.mode, .int .i64 x.mt.uid, .int .i64 x.mt.gid, .string x.mt.user, .string x.mt.group, .int .i64 x.mt.second, .int .i64 x.mt.nano, .slice x.da x.data.length x.dcap] 26)).heap.size) := Lib.hid HBX.out.size
  have hgi := HR.out.mt.gid
  have hui := HR.out.mt.uid
  have hus := HR.out.mt.user
  have hgs := HR.out.mt.group
  have hts := HR.out.target
  have hps := HR.out.pathSize
  have hkk := HR.out.kind
  have hsec := HR.out.mt.second
  have hnan := HR.out.mt.nano
  have HMO := Lib.hid (fun w => Most_any 12 w)
  rw [show octMost 12 = (8589934591, 0) by rfl] at HMO
  simp only at HMO
  clear hT
  go_enter Tryz.func37, Tryz.ntmps37
  go_upto_region 1 with fail
  have hbw : w.heap.size < (w.alloc (.cells #[.string x.path, .int .i64 x.kind, .string x.target, .int .i64 x.mt.mode, .int .i64 x.mt.uid, .int .i64 x.mt.gid, .string x.mt.user, .string x.mt.group, .int .i64 x.mt.second, .int .i64 x.mt.nano, .slice x.da x.data.length x.dcap] 26)).heap.size := by simp
  generalize w.alloc (.cells #[.string x.path, .int .i64 x.kind, .string x.target, .int .i64 x.mt.mode, .int .i64 x.mt.uid, .int .i64 x.mt.gid, .string x.mt.user, .string x.mt.group, .int .i64 x.mt.second, .int .i64 x.mt.nano, .slice x.da x.data.length x.dcap] 26) = wx at *
  obtain ⟨h0, h1, h2, h3, h4, h5, h6, h7, h8, h9, h10⟩ := HEB.out.zero
  go_cut [3] from 12 to 23 (fun u wr => u = .pointer (some ⟨wx.heap.size, 0, none⟩) ∧ Hid (RecSt tRecE tPk wx wr wx.heap.size (pcells (hd0 x) (.slice none 0 0)) (.slice none 0 0) []))
  case first =>
    have hk4 : x.kind = 1 ∨ x.kind = 2 ∨ x.kind = 3 ∨ x.kind = 4 := by omega
    clear hkk
    rcases hk4 with hk | hk | hk | hk
    · have HK := Lib.hid (show kindT x.kind = 48 by rw [hk]; rfl)
      rw [hk] at h1
      clear hk
      go_region
      go_wp2
      go_meet
      refine ⟨rfl, Lib.hid ⟨?_, OwnRecs.nil _ _ _, Nat.le_refl _, ((Below.refl _ _).alloc (Nat.le_refl _) _).drew⟩⟩
      show (wx.heap.push _)[wx.heap.size]? = some (.cells #[.string ⟨#[]⟩, .string ⟨#[]⟩, .string ⟨#[]⟩, .int .i64 x.mt.mode, .int .i64 0, .int .i64 0, .int .i64 x.data.length, .int .i64 0, .int .u8 (kindT x.kind).toNat, .string ⟨#[]⟩, .string ⟨#[]⟩, .slice none 0 0] tPk (0, 0))
      rw [HK.out]
      exact heap_alloc_new _ _
    · have HK := Lib.hid (show kindT x.kind = 53 by rw [hk]; rfl)
      rw [hk] at h1
      clear hk
      go_region
      go_wp2
      go_meet
      refine ⟨rfl, Lib.hid ⟨?_, OwnRecs.nil _ _ _, Nat.le_refl _, ((Below.refl _ _).alloc (Nat.le_refl _) _).drew⟩⟩
      show (wx.heap.push _)[wx.heap.size]? = some (.cells #[.string ⟨#[]⟩, .string ⟨#[]⟩, .string ⟨#[]⟩, .int .i64 x.mt.mode, .int .i64 0, .int .i64 0, .int .i64 x.data.length, .int .i64 0, .int .u8 (kindT x.kind).toNat, .string ⟨#[]⟩, .string ⟨#[]⟩, .slice none 0 0] tPk (0, 0))
      rw [HK.out]
      exact heap_alloc_new _ _
    · have HK := Lib.hid (show kindT x.kind = 50 by rw [hk]; rfl)
      rw [hk] at h1
      clear hk
      go_region
      go_wp2
      go_meet
      refine ⟨rfl, Lib.hid ⟨?_, OwnRecs.nil _ _ _, Nat.le_refl _, ((Below.refl _ _).alloc (Nat.le_refl _) _).drew⟩⟩
      show (wx.heap.push _)[wx.heap.size]? = some (.cells #[.string ⟨#[]⟩, .string ⟨#[]⟩, .string ⟨#[]⟩, .int .i64 x.mt.mode, .int .i64 0, .int .i64 0, .int .i64 x.data.length, .int .i64 0, .int .u8 (kindT x.kind).toNat, .string ⟨#[]⟩, .string ⟨#[]⟩, .slice none 0 0] tPk (0, 0))
      rw [HK.out]
      exact heap_alloc_new _ _
    · have HK := Lib.hid (show kindT x.kind = 49 by rw [hk]; rfl)
      rw [hk] at h1
      clear hk
      go_region
      go_wp2
      go_meet
      refine ⟨rfl, Lib.hid ⟨?_, OwnRecs.nil _ _ _, Nat.le_refl _, ((Below.refl _ _).alloc (Nat.le_refl _) _).drew⟩⟩
      show (wx.heap.push _)[wx.heap.size]? = some (.cells #[.string ⟨#[]⟩, .string ⟨#[]⟩, .string ⟨#[]⟩, .int .i64 x.mt.mode, .int .i64 0, .int .i64 0, .int .i64 x.data.length, .int .i64 0, .int .u8 (kindT x.kind).toNat, .string ⟨#[]⟩, .string ⟨#[]⟩, .slice none 0 0] tPk (0, 0))
      rw [HK.out]
      exact heap_alloc_new _ _
  case rest =>
  obtain ⟨rfl, S⟩ := hcut
  obtain ⟨w1, rfl⟩ : ∃ W : World, W = wc := ⟨_, rfl⟩
  clear h0 h1 h2 h3 h4 h5 h6 h7 h8 h9 h10
  obtain ⟨h0, h1, h2, h3, h4, h5, h6, h7, h8, h9, h10⟩ := (HEB.out.below S.out.bel).zero
  go_wp2_with fail
  refine (Number_any _ kGid _ _ _ _ _ _ S.out (by simp) hgi (HP.out.below S.out.bel)).mono ?_
  rintro e w2 ⟨rfl, v2, s⟩
  rw [List.nil_append] at s
  have S2 : Hid (RecSt tRecE tPk wx w2 wx.heap.size (pcells (hd0 x) v2) v2 (rl1 x)) := Lib.hid s
  clear s S h0 h1 h2 h3 h4 h5 h6 h7 h8 h9 h10
  have f := S2.out.free 5
  obtain ⟨c, hc⟩ : ∃ c, w2.cell? ⟨wx.heap.size, 5, none⟩ = some c := ⟨_, S2.out.cell 5⟩
  go_upto_region 4 with fail
  have S : Hid (RecSt tRecE tPk wx (w2.setCell ⟨wx.heap.size, 5, none⟩ (.int .i64 (hidNum x.mt.gid 2097151))) wx.heap.size (pcells (hd1 x) v2) v2 (rl1 x)) := Lib.hid (S2.out.put 5 (.int .i64 (hidNum x.mt.gid 2097151)) rfl)
  clear S2 f hc
  generalize w2.setCell ⟨wx.heap.size, 5, none⟩ (.int .i64 (hidNum x.mt.gid 2097151)) = w1 at *
  obtain ⟨v, rfl⟩ : ∃ V : Value, V = v2 := ⟨_, rfl⟩
  obtain ⟨h0, h1, h2, h3, h4, h5, h6, h7, h8, h9, h10⟩ := (HEB.out.below S.out.bel).zero
  go_wp2_with fail
  refine (Text_any _ kGname x.mt.group _ 31 _ _ _ _ _ _ S.out (Nat.le_trans (rl1_len x) (by omega)) rfl (by omega) (by omega)).mono ?_
  rintro e w2 ⟨rfl, v2, s⟩
  have S2 : Hid (RecSt tRecE tPk wx w2 wx.heap.size (pcells (hd1 x) v2) v2 (rl2 x)) := Lib.hid s
  clear s S h0 h1 h2 h3 h4 h5 h6 h7 h8 h9 h10
  have f := S2.out.free 10
  obtain ⟨c, hc⟩ : ∃ c, w2.cell? ⟨wx.heap.size, 10, none⟩ = some c := ⟨_, S2.out.cell 10⟩
  go_upto_region 5 with fail
  have S : Hid (RecSt tRecE tPk wx (w2.setCell ⟨wx.heap.size, 10, none⟩ (.string (hidText x.mt.group 31 ⟨#[]⟩))) wx.heap.size (pcells (hd2 x) v2) v2 (rl2 x)) := Lib.hid (S2.out.put 10 (.string (hidText x.mt.group 31 ⟨#[]⟩)) rfl)
  clear S2 f hc
  generalize w2.setCell ⟨wx.heap.size, 10, none⟩ (.string (hidText x.mt.group 31 ⟨#[]⟩)) = w1 at *
  obtain ⟨v, rfl⟩ : ∃ V : Value, V = v2 := ⟨_, rfl⟩
  obtain ⟨h0, h1, h2, h3, h4, h5, h6, h7, h8, h9, h10⟩ := (HEB.out.below S.out.bel).zero
  go_wp2_with fail
  refine (Text_any _ kLink x.target _ 100 _ _ _ _ _ _ S.out (Nat.le_trans (rl2_len x) (by omega)) rfl (by omega) (by omega)).mono ?_
  rintro e w2 ⟨rfl, v2, s⟩
  have S2 : Hid (RecSt tRecE tPk wx w2 wx.heap.size (pcells (hd2 x) v2) v2 (rl3 x)) := Lib.hid s
  clear s S h0 h1 h2 h3 h4 h5 h6 h7 h8 h9 h10
  have f := S2.out.free 2
  obtain ⟨c, hc⟩ : ∃ c, w2.cell? ⟨wx.heap.size, 2, none⟩ = some c := ⟨_, S2.out.cell 2⟩
  go_upto_region 6 with fail
  have S : Hid (RecSt tRecE tPk wx (w2.setCell ⟨wx.heap.size, 2, none⟩ (.string (hidText x.target 100 ⟨#[64, 108, 111, 110, 103]⟩))) wx.heap.size (pcells (hd3 x) v2) v2 (rl3 x)) := Lib.hid (S2.out.put 2 (.string (hidText x.target 100 ⟨#[64, 108, 111, 110, 103]⟩)) rfl)
  clear S2 f hc
  generalize w2.setCell ⟨wx.heap.size, 2, none⟩ (.string (hidText x.target 100 ⟨#[64, 108, 111, 110, 103]⟩)) = w1 at *
  obtain ⟨v, rfl⟩ : ∃ V : Value, V = v2 := ⟨_, rfl⟩
  obtain ⟨h0, h1, h2, h3, h4, h5, h6, h7, h8, h9, h10⟩ := (HEB.out.below S.out.bel).zero
  go_wp2_with fail
  refine (HMO.out _).mono ?_
  rintro e w' ⟨rfl, rfl⟩
  go_upto_region 7 with fail
  go_cut [70] from 54 to 70 (fun u wy => ∃ q, u = .bool q ∧ Hid (q = decide (timeOdd x.mt)) ∧ wy = w1)
  case first =>
    have HTO := Lib.hid (timeOdd_bool x.mt)
    by_cases t1 : 0 < x.mt.nano
    · have d1 : decide (0 < x.mt.nano) = true := decide_eq_true t1
      clear t1 hsec hnan
      go_wp2
      go_meet
      exact ⟨true, rfl, Lib.hid (by rw [HTO.out, d1]; rfl), rfl⟩
    · have d1 : decide (0 < x.mt.nano) = false := decide_eq_false t1
      by_cases t2 : x.mt.second < 0
      · have d2 : decide (x.mt.second < 0) = true := decide_eq_true t2
        clear t1 t2 hsec hnan
        go_wp2
        go_meet
        exact ⟨true, rfl, Lib.hid (by rw [HTO.out, d1, d2]; rfl), rfl⟩
      · have d2 : decide (x.mt.second < 0) = false := decide_eq_false t2
        by_cases t3 : 8589934591 < x.mt.second
        · have d3 : decide (8589934591 < x.mt.second) = true := decide_eq_true t3
          clear t1 t2 t3 hsec hnan
          go_wp2
          go_meet
          exact ⟨true, rfl, Lib.hid (by rw [HTO.out, d1, d2, d3]; rfl), rfl⟩
        · have d3 : decide (8589934591 < x.mt.second) = false := decide_eq_false t3
          clear t1 t2 t3 hsec hnan
          go_wp2
          go_meet
          exact ⟨false, rfl, Lib.hid (by rw [HTO.out, d1, d2, d3]; rfl), rfl⟩
  case rest =>
  obtain ⟨q, rfl, HQ, rfl⟩ := hcut
  obtain ⟨w1, rfl⟩ : ∃ W : World, W = wc := ⟨_, rfl⟩
  go_step
  go_cut [7, 8, 70] from 71 to 89 (fun _ _ u wy => u = .bool q ∧ Hid (∃ v, RecSt tRecE tPk wx wy wx.heap.size (pcells (hd4 x) v) v (rl4 x)))
  case first =>
    cases q with
    | true =>
      have HT := Lib.hid (recTime_yes (of_decide_eq_true HQ.out.symm))
      have HTT := Lib.hid (fun w h => StampText_any x.mt.second x.mt.nano w (by unfold i64; omega) (by unfold i64; omega) h)
      go_wp2_with fail
      refine (HTT.out _ (HP.out.below S.out.bel)).mono ?_
      rintro e w2 ⟨rfl, hb⟩
      have S2 := Lib.hid (S.out.below hb)
      clear hb
      go_wp2_with fail
      refine (Say_any _ kMtime _ _ _ _ _ _ S2.out (Nat.le_trans (rl3_len x) (by omega))).mono ?_
      rintro e w3 ⟨rfl, v3, s⟩
      have S3 : Hid (∃ v, RecSt tRecE tPk wx w3 wx.heap.size (pcells (hd4 x) v) v (rl4 x)) := Lib.hid ⟨v3, by
        have e1 : rl4 x = rl3 x ++ [⟨kMtime, (timeText x.mt.second x.mt.nano).1⟩] := by unfold rl4; rw [HT.out.1]
        have e2 : hd4 x = hd3 x := by unfold hd4; rw [HT.out.2]; rfl
        rw [e1, e2]; exact s⟩
      clear s
      go_wp2
      go_meet
      exact ⟨rfl, S3.out⟩
    | false =>
      have HT := Lib.hid (recTime_no (of_decide_eq_false HQ.out.symm))
      have f := S.out.free 7
      obtain ⟨c, hc⟩ : ∃ c, w1.cell? ⟨wx.heap.size, 7, none⟩ = some c := ⟨_, S.out.cell 7⟩
      have S3 : Hid (∃ v, RecSt tRecE tPk wx (w1.setCell ⟨wx.heap.size, 7, none⟩ (.int .i64 x.mt.second)) wx.heap.size (pcells (hd4 x) v) v (rl4 x)) := Lib.hid ⟨_, by
        have e1 : rl4 x = rl3 x := by unfold rl4; rw [HT.out.1, List.append_nil]
        have e2 : hd4 x = { hd3 x with time := x.mt.second } := by unfold hd4; rw [HT.out.2]
        rw [e1, e2]; exact S.out.put 7 _ rfl⟩
      go_wp2
      go_meet
      exact ⟨rfl, S3⟩
  case rest =>
  obtain ⟨rfl, HS⟩ := hcut
  obtain ⟨v, s⟩ := HS.out
  clear S HS h0 h1 h2 h3 h4 h5 h6 h7 h8 h9 h10
  obtain ⟨w1, rfl⟩ : ∃ W : World, W = wc := ⟨_, rfl⟩
  have S := Lib.hid s
  clear s
  obtain ⟨h0, h1, h2, h3, h4, h5, h6, h7, h8, h9, h10⟩ := (HEB.out.below S.out.bel).zero
  go_wp2_with fail
  refine (Two_any x.path _ (by unfold maxLen; omega)).mono ?_
  rintro e w2 ⟨rfl, hb⟩
  have S2 := Lib.hid (S.out.below hb)
  clear hb S h0 h1 h2 h3 h4 h5 h6 h7 h8 h9 h10
  have f0 := S2.out.free 0
  have f1 := S2.out.free 1
  obtain ⟨c0, hc0⟩ : ∃ c, w2.cell? ⟨wx.heap.size, 0, none⟩ = some c := ⟨_, S2.out.cell 0⟩
  obtain ⟨c1, hc1⟩ : ∃ c, w2.cell? ⟨wx.heap.size, 1, none⟩ = some c := ⟨_, S2.out.cell 1⟩
  have f2 := (S2.out.put 1 (.string (cutTwo x.path).1) rfl).free 0
  go_upto_region 13 with fail
  have S : Hid (RecSt tRecE tPk wx ((w2.setCell ⟨wx.heap.size, 1, none⟩ (.string (cutTwo x.path).1)).setCell ⟨wx.heap.size, 0, none⟩ (.string (cutTwo x.path).2.1)) wx.heap.size (pcells (hd5 x) v) v (rl4 x)) := Lib.hid ((S2.out.put 1 (.string (cutTwo x.path).1) rfl).put 0 (.string (cutTwo x.path).2.1) rfl)
  clear S2 f0 f1 f2 hc0 hc1
  generalize (w2.setCell ⟨wx.heap.size, 1, none⟩ (.string (cutTwo x.path).1)).setCell ⟨wx.heap.size, 0, none⟩ (.string (cutTwo x.path).2.1) = w1 at *
  obtain ⟨h0, h1, h2, h3, h4, h5, h6, h7, h8, h9, h10⟩ := (HEB.out.below S.out.bel).zero
  go_cut [106] from 105 to 106 (fun u wy => ∃ q, u = .bool q ∧ Hid (q = decide (¬ (cutTwo x.path).2.2 = 0)) ∧ wy = w1)
  case first =>
    by_cases hz : (cutTwo x.path).2.2 = 0
    · have hd : ((cutTwo x.path).2.2 != 0) = false := by rw [hz]; rfl
      have HZ := Lib.hid hz
      clear hz
      go_wp2
      go_meet
      exact ⟨false, rfl, Lib.hid (by rw [HZ.out]; rfl), rfl⟩
    · have hd : ((cutTwo x.path).2.2 != 0) = true := by rw [bne_iff_ne]; exact hz
      have HZ := Lib.hid hz
      clear hz
      go_wp2
      go_meet
      exact ⟨true, rfl, Lib.hid (by rw [decide_eq_true HZ.out]), rfl⟩
  case rest =>
  obtain ⟨q, rfl, HQ, rfl⟩ := hcut
  obtain ⟨w1, rfl⟩ : ∃ W : World, W = wc := ⟨_, rfl⟩
  go_step
  go_cut [106] from 107 to 113 (fun u wy => u = .bool q ∧ Hid (∃ v, RecSt tRecE tPk wx wy wx.heap.size (pcells (hd6 x) v) v (rl5 x)))
  case first =>
    cases q with
    | true =>
      have HT := Lib.hid (recPath_yes (of_decide_eq_true HQ.out.symm))
      have f := S.out.free 0
      obtain ⟨c, hc⟩ : ∃ c, w1.cell? ⟨wx.heap.size, 0, none⟩ = some c := ⟨_, S.out.cell 0⟩
      go_upto_region 15 with fail
      have S2 : Hid (RecSt tRecE tPk wx (w1.setCell ⟨wx.heap.size, 0, none⟩ (.string ⟨#[64, 108, 111, 110, 103]⟩)) wx.heap.size (pcells { hd5 x with nm := ⟨#[64, 108, 111, 110, 103]⟩ } v) v (rl4 x)) := Lib.hid (S.out.put 0 _ rfl)
      clear S f hc h0 h1 h2 h3 h4 h5 h6 h7 h8 h9 h10
      generalize w1.setCell ⟨wx.heap.size, 0, none⟩ (.string ⟨#[64, 108, 111, 110, 103]⟩) = w2 at *
      obtain ⟨h0, h1, h2, h3, h4, h5, h6, h7, h8, h9, h10⟩ := (HEB.out.below S2.out.bel).zero
      go_wp2_with fail
      refine (Say_any _ kPath _ _ _ _ _ _ S2.out (Nat.le_trans (rl4_len x) (by omega))).mono ?_
      rintro e w3 ⟨rfl, v3, s⟩
      have S3 : Hid (∃ v, RecSt tRecE tPk wx w3 wx.heap.size (pcells (hd6 x) v) v (rl5 x)) := Lib.hid ⟨v3, by
        have e1 : rl5 x = rl4 x ++ [⟨kPath, x.path⟩] := by unfold rl5; rw [HT.out.1]
        have e2 : hd6 x = { hd5 x with nm := ⟨#[64, 108, 111, 110, 103]⟩ } := by unfold hd6; rw [HT.out.2]; rfl
        rw [e1, e2]; exact s⟩
      clear s
      go_wp2
      go_meet
      exact ⟨rfl, S3.out⟩
    | false =>
      have HT := Lib.hid (recPath_no (s := x.path) (by simpa using of_decide_eq_false HQ.out.symm))
      have S3 : Hid (∃ v, RecSt tRecE tPk wx w1 wx.heap.size (pcells (hd6 x) v) v (rl5 x)) := Lib.hid ⟨_, by
        have e1 : rl5 x = rl4 x := by unfold rl5; rw [HT.out.1, List.append_nil]
        have e2 : hd6 x = hd5 x := by unfold hd6; rw [HT.out.2]; rfl
        rw [e1, e2]; exact S.out⟩
      go_wp2
      go_meet
      exact ⟨rfl, S3⟩
  case rest =>
  obtain ⟨rfl, HS⟩ := hcut
  obtain ⟨v, s⟩ := HS.out
  clear S HS h0 h1 h2 h3 h4 h5 h6 h7 h8 h9 h10
  obtain ⟨w1, rfl⟩ : ∃ W : World, W = wc := ⟨_, rfl⟩
  have S := Lib.hid s
  clear s
  obtain ⟨h0, h1, h2, h3, h4, h5, h6, h7, h8, h9, h10⟩ := (HEB.out.below S.out.bel).zero
  go_wp2_with fail
  refine (Number_any _ kUid _ _ _ _ _ _ S.out (Nat.le_trans (rl5_len x) (by omega)) hui (HP.out.below S.out.bel)).mono ?_
  rintro e w2 ⟨rfl, v2, s⟩
  have S2 : Hid (RecSt tRecE tPk wx w2 wx.heap.size (pcells (hd6 x) v2) v2 (rl6 x)) := Lib.hid s
  clear s S h0 h1 h2 h3 h4 h5 h6 h7 h8 h9 h10
  have f := S2.out.free 4
  obtain ⟨c, hc⟩ : ∃ c, w2.cell? ⟨wx.heap.size, 4, none⟩ = some c := ⟨_, S2.out.cell 4⟩
  go_upto_region 17 with fail
  have S : Hid (RecSt tRecE tPk wx (w2.setCell ⟨wx.heap.size, 4, none⟩ (.int .i64 (hidNum x.mt.uid 2097151))) wx.heap.size (pcells (hd7 x) v2) v2 (rl6 x)) := Lib.hid (S2.out.put 4 (.int .i64 (hidNum x.mt.uid 2097151)) rfl)
  clear S2 f hc
  generalize w2.setCell ⟨wx.heap.size, 4, none⟩ (.int .i64 (hidNum x.mt.uid 2097151)) = w1 at *
  obtain ⟨v, rfl⟩ : ∃ V : Value, V = v2 := ⟨_, rfl⟩
  obtain ⟨h0, h1, h2, h3, h4, h5, h6, h7, h8, h9, h10⟩ := (HEB.out.below S.out.bel).zero
  go_wp2_with fail
  refine (Text_any _ kUname x.mt.user _ 31 _ _ _ _ _ _ S.out (Nat.le_trans (rl6_len x) (by omega)) rfl (by omega) (by omega)).mono ?_
  rintro e w2 ⟨rfl, v2, s⟩
  have S2 : Hid (RecSt tRecE tPk wx w2 wx.heap.size (pcells (hd7 x) v2) v2 (rl7 x)) := Lib.hid s
  clear s S h0 h1 h2 h3 h4 h5 h6 h7 h8 h9 h10
  have f := S2.out.free 9
  obtain ⟨c, hc⟩ : ∃ c, w2.cell? ⟨wx.heap.size, 9, none⟩ = some c := ⟨_, S2.out.cell 9⟩
  go_upto_region 18 with fail
  have S : Hid (RecSt tRecE tPk wx (w2.setCell ⟨wx.heap.size, 9, none⟩ (.string (hidText x.mt.user 31 ⟨#[]⟩))) wx.heap.size (pcells (hd8 x) v2) v2 (rl7 x)) := Lib.hid (S2.out.put 9 (.string (hidText x.mt.user 31 ⟨#[]⟩)) rfl)
  clear S2 f hc
  generalize w2.setCell ⟨wx.heap.size, 9, none⟩ (.string (hidText x.mt.user 31 ⟨#[]⟩)) = w1 at *
  obtain ⟨v, rfl⟩ : ∃ V : Value, V = v2 := ⟨_, rfl⟩
  obtain ⟨h0, h1, h2, h3, h4, h5, h6, h7, h8, h9, h10⟩ := (HEB.out.below S.out.bel).zero
  go_wp2
  go_ret
  exact ⟨_, _, rfl, S.out.since HBX.out⟩
end Go.Proofs.YtaffgndickdbiaaGreatDoor
namespace Go.Creel
theorem repeatL_one (c : UInt8) (n : Nat) : Lib.repeatL [c] n = List.replicate n c := by
  induction n with
  | zero => rfl
  | succ n ih => simp [Lib.repeatL, List.replicate_succ, ih]
def zerosS (n : Nat) : ByteArray := ofL (List.replicate n 0)
theorem zerosS_size (n : Nat) : (zerosS n).size = n := by simp [zerosS, ofL_size]
theorem zerosS_succ (n : Nat) : zerosS n ++ ofL [0] = zerosS (n + 1) := by
  unfold zerosS
  rw [ofL_append, List.replicate_succ']
end Go.Creel
namespace Go.Proofs.YtaffgndickdbiaaGreatDoor
open Go.Creel Go.RowKit
theorem Repeat0_any (c : Int) (w : World) (h0 : 0 ≤ c) (h1 : c ≤ 1000000) :
    Calls Tryz.prog 98 #[.string ⟨#[0]⟩, .int .i64 c] w fun e w' => e = .returned (.string (zerosS c.toNat)) ∧ Below w.heap.size w w' := by
  obtain ⟨n, rfl⟩ := Int.eq_ofNat_of_zero_le h0
  have := Tryz.strings_Repeat ⟨#[0]⟩ n w (by omega) (by show 1 * n ≤ _; omega)
  refine this.mono ?_
  rintro e w' ⟨rfl, hb⟩
  refine ⟨?_, hb⟩
  show Ending.returned (.string ⟨(Lib.repeatL [0] n).toArray⟩) = _
  rw [repeatL_one]
  rfl
set_option maxRecDepth 100000 in
theorem zeros_any (c : Int) (w : World) (h0 : 0 ≤ c) (h1 : c ≤ 1000000) :
    Calls Tryz.prog 60 #[.int .i64 c] w fun e w' => e = .returned (.string (zerosS c.toNat)) ∧ w = w' := by
  obtain ⟨n, rfl⟩ := Int.eq_ofNat_of_zero_le h0
  rw [Int.toNat_natCast]
  have hn : n ≤ 1000000 := by omega
  clear h0 h1
  go_enter Tryz.func60, Tryz.ntmps60
  go_wp2
  go_loop [3, 4] (fun s i => ∃ k : Nat, k ≤ n ∧ i = .int .i64 k ∧ s = .string (zerosS k)) (fun _ i => n - (intOf i).toNat)
  case atStart => exact ⟨0, by omega, rfl, rfl⟩
  case round =>
    obtain ⟨k, hk, rfl, rfl⟩ := hrel
    by_cases hlt : k < n
    · have HS := Lib.hid (zerosS_succ k)
      have hz : (zerosS k).size ≤ 1000000 := by rw [zerosS_size]; omega
      generalize zerosS k = s at *
      go_wp2
      go_round
      case rel => exact ⟨k + 1, by omega, by go_num, congrArg Value.string HS.out⟩
      case measure => simp [intOf]; omega
    · obtain rfl : k = n := by omega
      go_wp2
      go_ret
      exact ⟨rfl, rfl⟩
end Go.Proofs.YtaffgndickdbiaaGreatDoor
namespace Go.Creel
def fieldText (s : ByteArray) (width : Int) (whole : Bool) : ByteArray × Int :=
  if width < 1 ∨ 512 < width then (ByteArray.empty, 4)
  else if width < s.size ∨ (whole = false ∧ width = s.size) then (ByteArray.empty, 1)
  else if hasB s 0 = true then (ByteArray.empty, 3)
  else (s ++ zerosS (width.toNat - s.size), 0)
end Go.Creel
namespace Go.Proofs.YtaffgndickdbiaaGreatDoor
open Go.Creel Go.RowKit
set_option maxRecDepth 100000 in
set_option maxHeartbeats 1000000 in
theorem FieldWrite_any (s : ByteArray) (width : Int) (whole : Bool) (w : World) (hs : s.size ≤ maxLen) (hw : i64 width) :
    Calls Tryz.prog 96 #[.string s, .int .i64 width, .bool whole] w fun e w' => e = .returned (.tuple #[.string (fieldText s width whole).1, .int .i64 (fieldText s width whole).2]) ∧ Below w.heap.size w w' := by
  unfold maxLen at hs
  unfold i64 at hw
  by_cases h1 : width < 1 ∨ 512 < width
  · have HF := Lib.hid (show fieldText s width whole = (ByteArray.empty, 4) by unfold fieldText; rw [if_pos h1])
    have HN := Lib.hid h1
    rcases h1 with h1 | h1
    · have hd : decide (width < 1) = true := by simpa using h1
      go_enter Tryz.func96, Tryz.ntmps96
      go_wp2
      go_ret2
      exact ⟨ret_si HF.out, Below.refl _ _⟩
    · go_enter Tryz.func96, Tryz.ntmps96
      go_wp2
      go_ret2
      exact ⟨ret_si HF.out, Below.refl _ _⟩
  · have a1 : 1 ≤ width := by omega
    have a2 : width ≤ 512 := by omega
    by_cases h2 : width < s.size ∨ (whole = false ∧ width = s.size)
    · have HF := Lib.hid (show fieldText s width whole = (ByteArray.empty, 1) by unfold fieldText; rw [if_neg h1, if_pos h2])
      clear h1
      cases whole with
      | true =>
        have h3 : width < s.size := by simpa using h2
        clear h2
        go_enter Tryz.func96, Tryz.ntmps96
        go_wp2
        go_ret2
        exact ⟨ret_si HF.out, Below.refl _ _⟩
      | false =>
        have h3 : width - 1 < s.size := by rcases h2 with h | ⟨_, h⟩ <;> omega
        clear h2
        go_enter Tryz.func96, Tryz.ntmps96
        go_wp2
        go_ret2
        exact ⟨ret_si HF.out, Below.refl _ _⟩
    · have hix := idx_has s 0
      cases hh : hasB s 0 with
      | true =>
        have HF := Lib.hid (show fieldText s width whole = (ByteArray.empty, 3) by unfold fieldText; rw [if_neg h1, if_neg h2, if_pos hh])
        rw [hh] at hix
        clear h1 hh
        cases whole with
        | true =>
          have h3 : (s.size : Int) ≤ width := by have := h2; simp at this; omega
          clear h2
          go_enter Tryz.func96, Tryz.ntmps96
          go_wp2_with (go_at_call 84; refine (IndexByte_any _ _ _).mono ?_; rintro e w' ⟨rfl, rfl⟩)
          go_ret2
          exact ⟨ret_si HF.out, Below.refl _ _⟩
        | false =>
          have h3 : (s.size : Int) ≤ width - 1 := by have := h2; simp at this; omega
          clear h2
          go_enter Tryz.func96, Tryz.ntmps96
          go_wp2_with (go_at_call 84; refine (IndexByte_any _ _ _).mono ?_; rintro e w' ⟨rfl, rfl⟩)
          go_ret2
          exact ⟨ret_si HF.out, Below.refl _ _⟩
      | false =>
        have HF := Lib.hid (show fieldText s width whole = (s ++ zerosS (width.toNat - s.size), 0) by unfold fieldText; rw [if_neg h1, if_neg h2, if_neg (by rw [hh]; simp)])
        rw [hh] at hix
        have hz : (zerosS (width.toNat - s.size)).size ≤ 512 := by rw [zerosS_size]; omega
        clear h1 hh
        cases whole with
        | true =>
          have h3 : (s.size : Int) ≤ width := by have := h2; simp at this; omega
          clear h2
          go_enter Tryz.func96, Tryz.ntmps96
          go_wp2_with (first | (go_at_call 84; refine (IndexByte_any _ _ _).mono ?_; rintro e w' ⟨rfl, rfl⟩) | (go_at_call 98; refine (Repeat0_any _ _ (by omega) (by omega)).mono ?_; rintro e w' ⟨rfl, hb⟩; have HB := Lib.hid hb; clear hb))
          go_ret2
          exact ⟨ret_si HF.out, HB.out⟩
        | false =>
          have h3 : (s.size : Int) ≤ width - 1 := by have := h2; simp at this; omega
          clear h2
          go_enter Tryz.func96, Tryz.ntmps96
          go_wp2_with (first | (go_at_call 84; refine (IndexByte_any _ _ _).mono ?_; rintro e w' ⟨rfl, rfl⟩) | (go_at_call 98; refine (Repeat0_any _ _ (by omega) (by omega)).mono ?_; rintro e w' ⟨rfl, hb⟩; have HB := Lib.hid hb; clear hb))
          go_ret2
          exact ⟨ret_si HF.out, HB.out⟩
set_option maxRecDepth 100000 in
set_option maxHeartbeats 1000000 in
theorem FieldText_any (s : ByteArray) (width : Int) (whole : Bool) (w : World) (hs : s.size ≤ maxLen) (hw : i64 width) :
    Calls Tryz.prog 107 #[.string s, .int .i64 width, .bool whole] w fun e w' => e = .returned (.tuple #[.string (fieldText s width whole).1, .int .i64 (fieldText s width whole).2]) ∧ w = w' := by
  have hs' := hs
  unfold maxLen at hs
  unfold i64 at hw
  by_cases h1 : width < 1 ∨ 512 < width
  · have HF := Lib.hid (show fieldText s width whole = (ByteArray.empty, 4) by unfold fieldText; rw [if_pos h1])
    rcases h1 with h1 | h1
    · have hd : decide (width < 1) = true := by simpa using h1
      go_enter Tryz.func107, Tryz.ntmps107
      go_wp2
      go_ret2
      exact ⟨ret_si HF.out, rfl⟩
    · go_enter Tryz.func107, Tryz.ntmps107
      go_wp2
      go_ret2
      exact ⟨ret_si HF.out, rfl⟩
  · have a1 : 1 ≤ width := by omega
    have a2 : width ≤ 512 := by omega
    by_cases h2 : width < s.size ∨ (whole = false ∧ width = s.size)
    · have HF := Lib.hid (show fieldText s width whole = (ByteArray.empty, 1) by unfold fieldText; rw [if_neg h1, if_pos h2])
      clear h1
      by_cases h3 : width < s.size
      · clear h2
        go_enter Tryz.func107, Tryz.ntmps107
        go_wp2
        go_ret2
        exact ⟨ret_si HF.out, rfl⟩
      · obtain ⟨rfl, h4⟩ : whole = false ∧ width = s.size := by rcases h2 with h | h; exact absurd h h3; exact h
        have h5 : ((s.size : Int) == width) = true := by rw [beq_iff_eq, h4]
        clear h2 h4
        go_enter Tryz.func107, Tryz.ntmps107
        go_wp2
        go_ret2
        exact ⟨ret_si HF.out, rfl⟩
    · have h3 : (s.size : Int) ≤ width := by omega
      have h4 : whole = true ∨ ((s.size : Int) == width) = false := by
        cases whole with
        | true => exact .inl rfl
        | false => right; rw [beq_eq_false_iff_ne]; intro e; exact h2 (.inr ⟨rfl, e.symm⟩)
      have hz : (zerosS (width.toNat - s.size)).size ≤ 512 := by rw [zerosS_size]; omega
      cases hh : hasB s 0 with
      | true =>
        have HF := Lib.hid (show fieldText s width whole = (ByteArray.empty, 3) by unfold fieldText; rw [if_neg h1, if_neg h2, if_pos hh])
        clear h1 h2
        rcases h4 with rfl | h4
        all_goals
          go_enter Tryz.func107, Tryz.ntmps107
          go_wp2_with (go_at_call 105; refine (has_any _ 0 0 rfl _ hs').mono ?_; rintro e w' ⟨rfl, rfl⟩)
          all_goals (go_ret2; exact ⟨ret_si HF.out, rfl⟩)
      | false =>
        have HF := Lib.hid (show fieldText s width whole = (s ++ zerosS (width.toNat - s.size), 0) by unfold fieldText; rw [if_neg h1, if_neg h2, if_neg (by rw [hh]; simp)])
        clear h1 h2
        rcases h4 with rfl | h4
        all_goals
          go_enter Tryz.func107, Tryz.ntmps107
          go_wp2_with (first | (go_at_call 105; refine (has_any _ 0 0 rfl _ hs').mono ?_; rintro e w' ⟨rfl, rfl⟩) | (go_at_call 60; refine (zeros_any _ _ (by omega) (by omega)).mono ?_; rintro e w' ⟨rfl, rfl⟩))
          all_goals (go_ret2; exact ⟨ret_si HF.out, rfl⟩)
end Go.Proofs.YtaffgndickdbiaaGreatDoor
