/-
  list.All and creelref.LinesOf, walked.
-/
import Derived.Test.YtaffgndickdbiaaDoorLineR
import Derived.Test.YtaffgndickdbiaaDoorEntsCheck
import Derived.Test.YtaffgndickdbiaaDoorPieces
namespace Go.Creel
set_option linter.unusedVariables false
open Go.RowKit
def linesL (l : List Ent) (k : Nat) : List ByteArray := (l.take k).map lineT
theorem linesL_zero (l : List Ent) : linesL l 0 = [] := rfl
theorem linesL_len (l : List Ent) (k : Nat) : (linesL l k).length ≤ k := by
  unfold linesL; rw [List.length_map]; exact List.length_take_le _ _
theorem linesL_succ {l : List Ent} {k : Nat} (h : k < l.length) : linesL l (k + 1) = linesL l k ++ [lineT (ek l k)] := by
  unfold linesL; rw [List.take_add_one, List.map_append, ek_eq h, List.getElem?_eq_getElem h]; rfl
noncomputable def linesOf (l : List Ent) : List ByteArray × Int := if entsFault l = 0 then (linesL l l.length, 0) else ([], entsFault l)
theorem linesOf_ok {l : List Ent} (h : entsFault l = 0) : linesOf l = (linesL l l.length, 0) := if_pos h
theorem linesOf_bad {l : List Ent} (h : ¬ entsFault l = 0) : linesOf l = ([], entsFault l) := if_neg h
def RetLs (t : TypeId) (w : World) (p : List ByteArray × Int) (e : Ending) (w' : World) : Prop := ∃ v, e = .returned (.tuple #[v, .int .i64 p.2]) ∧ OwnSs t w' w.heap.size v p.1 ∧ Below w.heap.size w w'
theorem ownSs_mono {t : TypeId} {w : World} {B B' : Nat} {v : Value} {l : List ByteArray} (h : OwnSs t w B v l) (hb : B' ≤ B) : OwnSs t w B' v l := by
  rcases h.2 with ⟨rfl, h0⟩ | ⟨g, cap, cur, rfl, hbg, hg, hnc, hcm, hcs, htake⟩
  · exact ⟨h.1, .inl ⟨rfl, h0⟩⟩
  · exact ⟨h.1, .inr ⟨g, cap, cur, rfl, Nat.le_trans hb hbg, hg, hnc, hcm, hcs, htake⟩⟩
end Go.Creel
namespace Go.Proofs.YtaffgndickdbiaaDoor
set_option linter.unusedVariables false
set_option linter.unusedSimpArgs false
open Go.Creel Go.RowKit
set_option maxRecDepth 100000 in
set_option maxHeartbeats 4000000 in
theorem AllL_at (b off cap : Nat) (l : List Ent) (w : World) (hM : MaxOk w) (hT : Pow10 w) (hE : entsFault l = 0) (hpos : 0 < l.length) (hle : l.length ≤ cap) (hm : cap ≤ maxLen) (hc : EntsAt w b off l) (ho : ∀ i, i < l.length → (ek l i).Ok maxLen w) :
    Calls Tryd.prog 20 #[.slice (some ⟨b, off, none⟩) l.length cap] w (RetLs 9 w (linesOf l)) := by
  obtain ⟨i0, hi, hz0, hz1, hz2⟩ := info_parts info_string
  have HI := Lib.hid (And.intro hi (And.intro hz0 (And.intro hz1 hz2)))
  have HF := Lib.hid (linesOf_ok hE)
  have HCK := Lib.hid (EntsCheck_at b off cap l w hM hpos hle hm hc ho)
  rw [hE] at HCK
  have HEN := Lib.hid (fun k (hk : k < l.length) => (stepE_zero ((entsFault_all hE).2 k hk)).1)
  have hfew := (entsFault_all hE).1
  have HC := Lib.hid hc
  have HOK := Lib.hid ho
  have HM := Lib.hid hM
  have HT := Lib.hid hT
  unfold maxLen at hm
  clear hM hT hE hc ho hi hz0 hz1 hz2
  go_enter Tryd.func20, Tryd.ntmps20
  go_wp2_with fail
  refine HCK.out.mono ?_
  rintro e wa ⟨rfl, hb⟩
  have HBA := Lib.hid hb
  clear hb
  go_wp2
  go_loopw [5, 7, 8, 9, 17] (fun v _ _ _ i wr => ∃ k : Nat, k ≤ l.length ∧ i = .int .i64 k ∧ Hid (OwnSs 9 wr wa.heap.size v (linesL l k)) ∧ Hid (Below wa.heap.size wa wr)) (fun _ _ _ _ i _ => l.length - (intOf i).toNat)
  case atStart => exact ⟨0, by omega, rfl, Lib.hid (by rw [linesL_zero]; exact World.ownsRow_nil _ _ _ 1), Lib.hid (Below.refl _ _)⟩
  case round =>
    obtain ⟨k, hk, rfl, HOW, HB⟩ := hrel
    have hnl := linesL_len l k
    by_cases hlt : k < l.length
    · have HS := Lib.hid (linesL_succ hlt)
      have HBW := Lib.hid (HBA.out.trans (HB.out.mono HBA.out.size))
      obtain ⟨h0, h1, h2, h3, h4, h5, h6, h7, h8, h9, h10⟩ := (HC.out.below HBW.out) k hlt
      have HLN := Lib.hid (fun W (hb : Below w.heap.size w W) => LineL_ok (ek l k) W (HM.out.below hb) ((HOK.out k hlt).below hb) (HEN.out k hlt) (HT.out.below hb))
      generalize ek l k = x at *
      have HBX := Lib.hid (HBW.out.alloc HBW.out.size (.cells #[.string x.path, .int .i64 x.kind, .string x.target, .int .i64 x.mt.mode, .int .i64 x.mt.uid, .int .i64 x.mt.gid, .string x.mt.user, .string x.mt.group, .int .i64 x.mt.second, .int .i64 x.mt.nano, .slice x.da x.data.length x.dcap] 40))
      have HEB := Lib.hid (entAt_box wr x 40)
      obtain ⟨g0, g1, g2, g3, g4, g5, g6, g7, g8, g9, g10⟩ := HEB.out.zero
      go_wp2_with fail
      refine (HLN.out _ HBX.out).mono ?_
      rintro e w3 ⟨rfl, hb⟩
      have HB3 := Lib.hid (HBX.out.trans (hb.mono HBX.out.size))
      have HWA3 := Lib.hid ((HB.out.alloc HB.out.size _).trans (hb.mono (by simp; exact Nat.le_succ_of_le HB.out.size)))
      have HO3 := Lib.hid (OwnSs.below (World.ownsRow.alloc HOW.out _) hb)
      clear hb h0 h1 h2 h3 h4 h5 h6 h7 h8 h9 h10 g0 g1 g2 g3 g4 g5 g6 g7 g8 g9 g10
      generalize lineT x = tx at *
      have HSZ := Lib.hid (Nat.le_trans HWA3.out.size ((Below.refl w3.heap.size w3).alloc (Nat.le_refl _) (.cells #[.string tx] 9)).size)
      have HOA := Lib.hid (World.ownsRow.alloc HO3.out (.cells #[.string tx] 9))
      have HBAL := Lib.hid (HWA3.out.alloc HWA3.out.size (.cells #[.string tx] 9))
      go_wp2_with (at_builtin; refine wpList_app _ rfl (.tmp 26) (.tmp 28) 44 44 rfl _ _ rfl rfl (n := (linesL l k).length) (fun ty => app_src _ _ _ _ wa.heap.size 9 i0 (.string ByteArray.empty) 1 16 Tryd.underlying44 HI.out.1 HI.out.2.1 HI.out.2.2.1 HI.out.2.2.2 rfl (by decide) _ _ _ _ _ _ HOA.out (src_one w3 _ _ _ Tryd.underlying44 _ rfl) (by unfold maxLen; omega) (by omega) HSZ.out) ?_; intro v1 w4 ho hg _)
      have HO4 := Lib.hid (OwnSs.app (m := [tx]) ho)
      have HB4 := Lib.hid (below_app HBAL.out hg HOA.out HSZ.out)
      clear ho hg
      go_wp2
      go_roundw
      case rel => exact ⟨k + 1, by omega, by go_num, Lib.hid (by rw [HS.out]; exact HO4.out), HB4⟩
      case measure => simp [intOf]; omega
    · obtain rfl : k = l.length := by omega
      go_wp2
      go_ret2
      rw [HF.out]
      exact ⟨_, rfl, ownSs_mono HOW.out HBA.out.size, HBA.out.trans (HB.out.mono HBA.out.size)⟩
set_option maxRecDepth 100000 in
theorem AllL_bad (v : Value) (l : List Ent) (w : World) (hM : MaxOk w) (hE : ¬ entsFault l = 0) (h : SliceC maxLen 11 (EntC maxLen) w [v] l) :
    Calls Tryd.prog 20 #[v] w (RetLs 9 w (linesOf l)) := by
  have HF := Lib.hid (linesOf_bad hE)
  have HCK := Lib.hid (EntsCheck_any v l w hM h)
  generalize entsFault l = q at *
  have hq : (q != 0) = true := by rw [bne_iff_ne]; exact hE
  clear hM hE h
  go_enter Tryd.func20, Tryd.ntmps20
  go_wp2_with fail
  refine HCK.out.mono ?_
  rintro e wa ⟨rfl, hb⟩
  have HBA := Lib.hid hb
  clear hb
  go_wp2
  go_ret2
  rw [HF.out]
  exact ⟨_, rfl, World.ownsRow_nil _ _ _ 1, HBA.out⟩
set_option maxRecDepth 100000 in
theorem AllL_nil (a : Option Addr) (cap : Nat) (w : World) :
    Calls Tryd.prog 20 #[.slice a 0 cap] w (RetLs 9 w (linesOf [])) := by
  have HF := Lib.hid (linesOf_ok entsFault_nil)
  have HCK := Lib.hid (EntsCheck_nil a cap w)
  go_enter Tryd.func20, Tryd.ntmps20
  go_wp2_with fail
  refine HCK.out.mono ?_
  rintro e wa ⟨rfl, hb⟩
  have HBA := Lib.hid hb
  clear hb
  go_wp2
  go_loop [5, 7, 8, 9, 17] (fun v _ _ _ i => i = .int .i64 0 ∧ v = .slice none 0 0) (fun _ _ _ _ i => 0)
  case atStart => exact ⟨rfl, rfl⟩
  case round =>
    obtain ⟨rfl, rfl⟩ := hrel
    go_wp2
    go_ret2
    rw [HF.out]
    exact ⟨_, rfl, World.ownsRow_nil _ _ _ 1, HBA.out⟩
theorem AllL_any (v : Value) (l : List Ent) (w : World) (hM : MaxOk w) (hT : Pow10 w) (h : SliceC maxLen 11 (EntC maxLen) w [v] l) :
    Calls Tryd.prog 20 #[v] w (RetLs 9 w (linesOf l)) := by
  by_cases hE : entsFault l = 0
  · rcases ents_cases h with ⟨a, cap, rfl, rfl, _⟩ | ⟨b, off, cap, rfl, h1, h2, h3, _, h4, h5⟩
    · exact AllL_nil a cap w
    · exact AllL_at b off cap l w hM hT hE h1 h2 h3 h4 h5
  · exact AllL_bad v l w hM hE h
set_option maxRecDepth 100000 in
set_option maxHeartbeats 4000000 in
theorem LinesR_at (b off cap : Nat) (l : List Ent) (w : World) (hM : MaxOk w) (hT : Pow10 w) (hE : entsFault l = 0) (hpos : 0 < l.length) (hle : l.length ≤ cap) (hm : cap ≤ maxLen) (hc : EntsAt w b off l) (ho : ∀ i, i < l.length → (ek l i).Ok maxLen w) :
    Calls Tryd.prog 22 #[.slice (some ⟨b, off, none⟩) l.length cap] w (RetLs 9 w (linesOf l)) := by
  obtain ⟨i0, hi, hz0, hz1, hz2⟩ := info_parts info_string
  have HI := Lib.hid (And.intro hi (And.intro hz0 (And.intro hz1 hz2)))
  have HF := Lib.hid (linesOf_ok hE)
  have HCK := Lib.hid (EntsFault_at b off cap l w hpos hle hm hc ho)
  rw [hE] at HCK
  have HEN := Lib.hid (fun k (hk : k < l.length) => (stepE_zero ((entsFault_all hE).2 k hk)).1)
  have hfew := (entsFault_all hE).1
  have HC := Lib.hid hc
  have HOK := Lib.hid ho
  have HM := Lib.hid hM
  have HT := Lib.hid hT
  unfold maxLen at hm
  clear hM hT hE hc ho hi hz0 hz1 hz2
  go_enter Tryd.func22, Tryd.ntmps22
  go_wp2_with fail
  refine HCK.out.mono ?_
  rintro e wa ⟨rfl, hb⟩
  have HBA := Lib.hid hb
  clear hb
  go_wp2
  go_loopw [5, 6, 7, 8] (fun v i _ _ wr => ∃ k : Nat, k ≤ l.length ∧ i = .int .i64 k ∧ Hid (OwnSs 9 wr wa.heap.size v (linesL l k)) ∧ Hid (Below wa.heap.size wa wr)) (fun _ i _ _ _ => l.length - (intOf i).toNat)
  case atStart => exact ⟨0, by omega, rfl, Lib.hid (by rw [linesL_zero]; exact World.ownsRow_nil _ _ _ 1), Lib.hid (Below.refl _ _)⟩
  case round =>
    obtain ⟨k, hk, rfl, HOW, HB⟩ := hrel
    have hnl := linesL_len l k
    by_cases hlt : k < l.length
    · have HS := Lib.hid (linesL_succ hlt)
      have HBW := Lib.hid (HBA.out.trans (HB.out.mono HBA.out.size))
      obtain ⟨h0, h1, h2, h3, h4, h5, h6, h7, h8, h9, h10⟩ := (HC.out.below HBW.out) k hlt
      have HLN := Lib.hid (fun W (hb : Below w.heap.size w W) => LineR_ok (ek l k) W ((HOK.out k hlt).below hb) (HEN.out k hlt) (HT.out.below hb))
      generalize ek l k = x at *
      go_wp2_with fail
      refine (HLN.out _ HBW.out).mono ?_
      rintro e w3 ⟨rfl, hb⟩
      have HB3 := Lib.hid (HBW.out.trans (hb.mono HBW.out.size))
      have HWA3 := Lib.hid (HB.out.trans (hb.mono (by exact HB.out.size)))
      have HO3 := Lib.hid (OwnSs.below HOW.out hb)
      clear hb h0 h1 h2 h3 h4 h5 h6 h7 h8 h9 h10
      generalize lineT x = tx at *
      have HSZ := Lib.hid (Nat.le_trans HWA3.out.size ((Below.refl w3.heap.size w3).alloc (Nat.le_refl _) (.cells #[.string tx] 9)).size)
      have HOA := Lib.hid (World.ownsRow.alloc HO3.out (.cells #[.string tx] 9))
      have HBAL := Lib.hid (HWA3.out.alloc HWA3.out.size (.cells #[.string tx] 9))
      go_wp2_with (at_builtin; refine wpList_app _ rfl (.tmp 28) (.tmp 30) 44 44 rfl _ _ rfl rfl (n := (linesL l k).length) (fun ty => app_src _ _ _ _ wa.heap.size 9 i0 (.string ByteArray.empty) 1 16 Tryd.underlying44 HI.out.1 HI.out.2.1 HI.out.2.2.1 HI.out.2.2.2 rfl (by decide) _ _ _ _ _ _ HOA.out (src_one w3 _ _ _ Tryd.underlying44 _ rfl) (by unfold maxLen; omega) (by omega) HSZ.out) ?_; intro v1 w4 ho hg _)
      have HO4 := Lib.hid (OwnSs.app (m := [tx]) ho)
      have HB4 := Lib.hid (below_app HBAL.out hg HOA.out HSZ.out)
      clear ho hg
      go_wp2
      go_roundw
      case rel => exact ⟨k + 1, by omega, by go_num, Lib.hid (by rw [HS.out]; exact HO4.out), HB4⟩
      case measure => simp [intOf]; omega
    · obtain rfl : k = l.length := by omega
      go_wp2
      go_ret2
      rw [HF.out]
      exact ⟨_, rfl, ownSs_mono HOW.out HBA.out.size, HBA.out.trans (HB.out.mono HBA.out.size)⟩
set_option maxRecDepth 100000 in
theorem LinesR_bad (v : Value) (l : List Ent) (w : World) (hM : MaxOk w) (hE : ¬ entsFault l = 0) (h : SliceC maxLen 11 (EntC maxLen) w [v] l) :
    Calls Tryd.prog 22 #[v] w (RetLs 9 w (linesOf l)) := by
  have HF := Lib.hid (linesOf_bad hE)
  have HCK := Lib.hid (EntsFault_any v l w h)
  generalize entsFault l = q at *
  have hq : (q != 0) = true := by rw [bne_iff_ne]; exact hE
  clear hM hE h
  go_enter Tryd.func22, Tryd.ntmps22
  go_wp2_with fail
  refine HCK.out.mono ?_
  rintro e wa ⟨rfl, hb⟩
  have HBA := Lib.hid hb
  clear hb
  go_wp2
  go_ret2
  rw [HF.out]
  exact ⟨_, rfl, World.ownsRow_nil _ _ _ 1, HBA.out⟩
set_option maxRecDepth 100000 in
theorem LinesR_nil (a : Option Addr) (cap : Nat) (w : World) :
    Calls Tryd.prog 22 #[.slice a 0 cap] w (RetLs 9 w (linesOf [])) := by
  have HF := Lib.hid (linesOf_ok entsFault_nil)
  have HCK := Lib.hid ((EntsFault_nil a cap w).mono fun e w2 (hh : e = .returned (.int .i64 0) ∧ w = w2) => (⟨hh.1, by rw [← hh.2]; exact Below.refl _ _⟩ : e = .returned (.int .i64 0) ∧ Below w.heap.size w w2))
  go_enter Tryd.func22, Tryd.ntmps22
  go_wp2_with fail
  refine HCK.out.mono ?_
  rintro e wa ⟨rfl, hb⟩
  have HBA := Lib.hid hb
  clear hb
  go_wp2
  go_loop [5, 6, 7, 8] (fun v i _ _ => i = .int .i64 0 ∧ v = .slice none 0 0) (fun _ i _ _ => 0)
  case atStart => exact ⟨rfl, rfl⟩
  case round =>
    obtain ⟨rfl, rfl⟩ := hrel
    go_wp2
    go_ret2
    rw [HF.out]
    exact ⟨_, rfl, World.ownsRow_nil _ _ _ 1, HBA.out⟩
theorem LinesR_any (v : Value) (l : List Ent) (w : World) (hM : MaxOk w) (hT : Pow10 w) (h : SliceC maxLen 11 (EntC maxLen) w [v] l) :
    Calls Tryd.prog 22 #[v] w (RetLs 9 w (linesOf l)) := by
  by_cases hE : entsFault l = 0
  · rcases ents_cases h with ⟨a, cap, rfl, rfl, _⟩ | ⟨b, off, cap, rfl, h1, h2, h3, _, h4, h5⟩
    · exact LinesR_nil a cap w
    · exact LinesR_at b off cap l w hM hT hE h1 h2 h3 h4 h5
  · exact LinesR_bad v l w hM hE h
end Go.Proofs.YtaffgndickdbiaaDoor
