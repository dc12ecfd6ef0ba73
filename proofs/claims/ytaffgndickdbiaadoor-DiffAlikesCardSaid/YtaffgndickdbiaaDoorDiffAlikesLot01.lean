/-
  Texts of this proof, one behind the other: NodsPut, AnewL, NodsCut, ChgsOwn, Note, SameN, DiffL.
-/
import Derived.Test.YtaffgndickdbiaaDoorCopyR
import Derived.Test.YtaffgndickdbiaaDoorAnewSpec
import Derived.Test.YtaffgndickdbiaaDoorLinkN
import Derived.Test.YtaffgndickdbiaaDoorPutSpec
import Derived.Test.YtaffgndickdbiaaDoorCopyL
import Derived.Test.YtaffgndickdbiaaDoorDiffSpec
import Derived.Test.YtaffgndickdbiaaDoorAlike
import Derived.Test.YtaffgndickdbiaaDoorSameTree
import Derived.Test.YtaffgndickdbiaaDoorCompare
import Derived.StillTailTactics
import Derived.Deep.CutRange
import Derived.Deep.RegionHeld3
/-
  Nodes of a tree of the call's own, written one by one. No program is named here.
-/
namespace Go.Creel
set_option linter.unusedVariables false
set_option linter.unusedSimpArgs false
open Go.RowKit
theorem grownBy_trans {w w1 w2 : World} {row : Option Nat} (h1 : w.grownBy w1 row) (h2 : w1.grownBy w2 row) : w.grownBy w2 row := by
  obtain ⟨a1, a2, a3, a4, a5⟩ := h1
  obtain ⟨b1, b2, b3, b4, b5⟩ := h2
  exact ⟨b1.trans a1, b2.trans a2, b3.trans a3, Nat.le_trans a4 b4, fun k hk hne => (b5 k (Nat.lt_of_lt_of_le hk a4) hne).trans (a5 k hk hne)⟩
theorem set_self (m : List Nod) (k : Nat) (hk : k < m.length) : m.set k (nk m k) = m := by
  rw [nk_eq hk, List.set_getElem_self]
theorem row_step {t : TypeId} {w0 w : World} {B g cap k j : Nat} {m : List Nod} {y : Nod} (h : w.ownsRow B t 12 (.slice (some ⟨g, 0, none⟩) m.length cap) m.length ((m.set k y).flatMap Nod.cells) ∧ w0.grownBy w (some g)) (hk : k < m.length) (hj : j < 12) (y' : Nod) (u : Value) (hy : y'.cells = y.cells.set j u) :
    (w.setCell ⟨g, k * 12 + j, none⟩ u).ownsRow B t 12 (.slice (some ⟨g, 0, none⟩) m.length cap) m.length ((m.set k y').flatMap Nod.cells) ∧ w0.grownBy (w.setCell ⟨g, k * 12 + j, none⟩ u) (some g) := by
  obtain ⟨h1, h2⟩ := h.1.stored (k * 12 + j) u
  rw [flat_set (m.set k y) k j y' u (by rw [List.length_set]; exact hk) hj (by rw [nk_set hk, if_pos rfl]; exact hy), List.set_set] at h1
  exact ⟨h1, grownBy_trans h.2 h2⟩
abbrev setNode (w : World) (g o : Nat) (x : Nod) : World := (((((((((((w.setCell ⟨g, o, none⟩ (.string x.path)).setCell ⟨g, o + 1, none⟩ (.int .i64 x.kind)).setCell ⟨g, o + 2, none⟩ (.int .i64 x.same)).setCell ⟨g, o + 3, none⟩ (.string x.target)).setCell ⟨g, o + 4, none⟩ (.int .i64 x.mt.mode)).setCell ⟨g, o + 5, none⟩ (.int .i64 x.mt.uid)).setCell ⟨g, o + 6, none⟩ (.int .i64 x.mt.gid)).setCell ⟨g, o + 7, none⟩ (.string x.mt.user)).setCell ⟨g, o + 8, none⟩ (.string x.mt.group)).setCell ⟨g, o + 9, none⟩ (.int .i64 x.mt.second)).setCell ⟨g, o + 10, none⟩ (.int .i64 x.mt.nano)).setCell ⟨g, o + 11, none⟩ (.slice x.da x.data.length x.dcap)
theorem OwnNods.putNode {t : TypeId} {w : World} {B g cap k n : Nat} {m : List Nod} {x : Nod} (h : OwnNods t w B (.slice (some ⟨g, 0, none⟩) n cap) m) (hm : m.length = n) (hk : k < n) (hx : NodIn w (.slice (some ⟨g, 0, none⟩) n cap) x) :
    OwnNods t (setNode w g (k * 12) x) B (.slice (some ⟨g, 0, none⟩) n cap) (m.set k x) ∧ w.grownBy (setNode w g (k * 12) x) (some g) := by
  subst hm
  have h0 : w.ownsRow B t 12 (.slice (some ⟨g, 0, none⟩) m.length cap) m.length ((m.set k (nk m k)).flatMap Nod.cells) ∧ w.grownBy w (some g) := ⟨by rw [set_self m k hk]; exact h.1, World.grownBy.refl w _⟩
  generalize nk m k = y at h0
  obtain ⟨p, kd, sm, tg, mt, da, dc, dt⟩ := y
  obtain ⟨a1, a2, a3, a4, a5, a6, a7⟩ := mt
  have s0 := row_step h0 hk (j := 0) (by omega) ⟨x.path, kd, sm, tg, ⟨a1, a2, a3, a4, a5, a6, a7⟩, da, dc, dt⟩ (.string x.path) rfl
  have s1 := row_step s0 hk (j := 1) (by omega) ⟨x.path, x.kind, sm, tg, ⟨a1, a2, a3, a4, a5, a6, a7⟩, da, dc, dt⟩ (.int .i64 x.kind) rfl
  have s2 := row_step s1 hk (j := 2) (by omega) ⟨x.path, x.kind, x.same, tg, ⟨a1, a2, a3, a4, a5, a6, a7⟩, da, dc, dt⟩ (.int .i64 x.same) rfl
  have s3 := row_step s2 hk (j := 3) (by omega) ⟨x.path, x.kind, x.same, x.target, ⟨a1, a2, a3, a4, a5, a6, a7⟩, da, dc, dt⟩ (.string x.target) rfl
  have s4 := row_step s3 hk (j := 4) (by omega) ⟨x.path, x.kind, x.same, x.target, ⟨x.mt.mode, a2, a3, a4, a5, a6, a7⟩, da, dc, dt⟩ (.int .i64 x.mt.mode) rfl
  have s5 := row_step s4 hk (j := 5) (by omega) ⟨x.path, x.kind, x.same, x.target, ⟨x.mt.mode, x.mt.uid, a3, a4, a5, a6, a7⟩, da, dc, dt⟩ (.int .i64 x.mt.uid) rfl
  have s6 := row_step s5 hk (j := 6) (by omega) ⟨x.path, x.kind, x.same, x.target, ⟨x.mt.mode, x.mt.uid, x.mt.gid, a4, a5, a6, a7⟩, da, dc, dt⟩ (.int .i64 x.mt.gid) rfl
  have s7 := row_step s6 hk (j := 7) (by omega) ⟨x.path, x.kind, x.same, x.target, ⟨x.mt.mode, x.mt.uid, x.mt.gid, x.mt.user, a5, a6, a7⟩, da, dc, dt⟩ (.string x.mt.user) rfl
  have s8 := row_step s7 hk (j := 8) (by omega) ⟨x.path, x.kind, x.same, x.target, ⟨x.mt.mode, x.mt.uid, x.mt.gid, x.mt.user, x.mt.group, a6, a7⟩, da, dc, dt⟩ (.string x.mt.group) rfl
  have s9 := row_step s8 hk (j := 9) (by omega) ⟨x.path, x.kind, x.same, x.target, ⟨x.mt.mode, x.mt.uid, x.mt.gid, x.mt.user, x.mt.group, x.mt.second, a7⟩, da, dc, dt⟩ (.int .i64 x.mt.second) rfl
  have s10 := row_step s9 hk (j := 10) (by omega) ⟨x.path, x.kind, x.same, x.target, ⟨x.mt.mode, x.mt.uid, x.mt.gid, x.mt.user, x.mt.group, x.mt.second, x.mt.nano⟩, da, dc, dt⟩ (.int .i64 x.mt.nano) rfl
  have s11 := row_step s10 hk (j := 11) (by omega) x (.slice x.da x.data.length x.dcap) rfl
  refine ⟨⟨by rw [List.length_set]; exact s11.1, fun z hz => ?_⟩, s11.2⟩
  have hin : NodIn w (.slice (some ⟨g, 0, none⟩) m.length cap) z := by
    rcases List.mem_or_eq_of_mem_set hz with a | a
    · exact h.2 z a
    · rw [a]; exact hx
  exact ⟨hin.1.grown s11.2 hin.2, hin.2⟩
theorem OwnNods.nodAtN {t : TypeId} {w : World} {B g cap n k : Nat} {m : List Nod} (h : OwnNods t w B (.slice (some ⟨g, 0, none⟩) n cap) m) (hm : m.length = n) (hk : k < n) : NodAt w g (k * 12) (nk m k) := by
  subst hm
  exact h.nodAt hk
theorem OwnNods.nodInN {t : TypeId} {w : World} {B g cap n k : Nat} {m : List Nod} (h : OwnNods t w B (.slice (some ⟨g, 0, none⟩) n cap) m) (hm : m.length = n) (hk : k < n) : NodIn w (.slice (some ⟨g, 0, none⟩) n cap) (nk m k) := by
  subst hm
  exact h.nodIn hk
theorem OwnNods.frozenAtN {t : TypeId} {w : World} {B g cap n : Nat} {m : List Nod} (h : OwnNods t w B (.slice (some ⟨g, 0, none⟩) n cap) m) (hm : m.length = n) (j : Nat) : w.frozen? ⟨g, j, none⟩ = false := by
  subst hm
  exact h.1.frozenAt j
theorem OwnNods.someAt {t : TypeId} {w : World} {B g cap n j : Nat} {m : List Nod} (h : OwnNods t w B (.slice (some ⟨g, 0, none⟩) n cap) m) (hm : m.length = n) (hj : j < n * 12) : (w.cell? ⟨g, j, none⟩).isSome = true := by
  subst hm
  rw [h.1.cellAt j hj, List.getElem?_eq_getElem (by rw [flat_len]; exact hj)]
  rfl
/-- a number of a node's own, written -/
theorem OwnNods.putSame {t : TypeId} {w : World} {B g cap n k : Nat} {m : List Nod} (h : OwnNods t w B (.slice (some ⟨g, 0, none⟩) n cap) m) (hm : m.length = n) (hk : k < n) (s : Int) (hs : i64 s) :
    OwnNods t (w.setCell ⟨g, k * 12 + 2, none⟩ (.int .i64 s)) B (.slice (some ⟨g, 0, none⟩) n cap) (m.set k { nk m k with same := s }) ∧ w.cell? ⟨g, k * 12 + 2, none⟩ = some (.int .i64 (nk m k).same) ∧ w.frozen? ⟨g, k * 12 + 2, none⟩ = false ∧ B ≤ g := by
  subst hm
  have hx := h.nodIn hk
  obtain ⟨_, _, h2, _⟩ := h.nodAt hk
  exact ⟨(h.put (k := k) (j := 2) hk (by omega) { nk m k with same := s } (.int .i64 s) rfl ⟨⟨hx.1.path, hx.1.kind, hs, hx.1.target, hx.1.mt, hx.1.data⟩, hx.2⟩).1, h2, h.1.frozenAt _, (World.ownsRow.lt h.1 g rfl).1⟩
end Go.Creel
/-
  link.Anew.
-/
namespace Go.Creel
set_option linter.unusedVariables false
set_option linter.unusedSimpArgs false
open Go.RowKit
theorem nodFault_data {x : Nod} (h : nodFault x = 0) : x.data.length ≤ 2000 := by
  unfold nodFault nodFaultN at h
  split at h
  · rename_i h1; exact absurd h h1
  · split at h
    · rename_i h1; exact absurd h h1
    · split at h
      · split at h
        · cases h
        · split at h
          · cases h
          · omega
      · split at h
        · split at h
          · cases h
          · rename_i h1; omega
        · cases h
theorem treeFault_data {l : List Nod} (h : treeFault l = 0) : ∀ i, i < l.length → (nk l i).data.length ≤ 140737488355328 := fun i hi => Nat.le_trans (nodFault_data ((treeFault_all h).2 i hi)) (by omega)
theorem namesN_at {l : List Nod} {n k : Nat} (h : k < n) : pieceI (namesN l n) k = (manyN l l.length (fstIdx l k) : Int) := by
  rw [pieceI_eq (by rw [namesN_len]; exact h)]
  simp [namesN]
theorem slice_formN {t : TypeId} {w : World} {B : Nat} {v : Value} {l : List Nod} (h : OwnNods t w B v l) : ∃ p cap, v = .slice p l.length cap ∧ (0 < l.length → ∃ g, p = some ⟨g, 0, none⟩ ∧ B ≤ g) := by
  rcases h.form with ⟨rfl, rfl⟩ | ⟨g, cap, rfl, hgB, hgw, hcap, hcapm⟩
  · exact ⟨none, 0, rfl, fun h => absurd h (by simp)⟩
  · exact ⟨_, _, rfl, fun _ => ⟨g, rfl, hgB⟩⟩
theorem set_again (m : List Nod) (k : Nat) (s s' : Int) : (m.set k { nk m k with same := s }).set k { nk (m.set k { nk m k with same := s }) k with same := s' } = m.set k { nk m k with same := s' } := by
  rw [List.set_set]
  by_cases h : k < m.length
  · rw [nk_set h, if_pos rfl]
  · rw [List.set_eq_of_length_le (by omega), List.set_eq_of_length_le (by omega)]
end Go.Creel
namespace Go.Proofs.YtaffgndickdbiaaDoor
set_option linter.unusedVariables false
set_option linter.unusedSimpArgs false
open Go.Creel Go.RowKit
set_option maxRecDepth 100000 in
set_option maxHeartbeats 4000000 in
theorem AnewL_any (v : Value) (l : List Nod) (w : World) (hM : MaxOk w) (h : SliceC maxLen 12 (NodC maxLen) w [v] l) :
    Calls Tryd.prog 40 #[v] w (RetTE 60 w (linkAnew l)) := by
  have H := Lib.hid h
  have HM := Lib.hid hM
  by_cases hE : treeFault l = 0
  · have HF := Lib.hid (linkAnew_ok hE)
    have HL1 := Lib.hid (linkFirsts_ok hE)
    have HL2 := Lib.hid (linkNames_ok hE)
    have hfew := (treeFault_all hE).1
    have HD := Lib.hid (treeFault_data hE)
    clear hE h hM
    go_enter Tryd.func40, Tryd.ntmps40
    go_wp2_with fail
    refine (LinkL_any v l _ HM.out H.out).mono ?_
    rintro e w1 ⟨v1, rfl, ho, hb⟩
    rw [HL1.out] at ho ⊢
    have HB1 := Lib.hid hb
    have HO1 := Lib.hid ho
    have H1 := Lib.hid (nods_below H.out hb)
    have HM1 := Lib.hid (HM.out.below hb)
    clear hb ho
    go_wp2_with fail
    refine (LinkN_any v l _ HM1.out H1.out).mono ?_
    rintro e w2 ⟨v2, rfl, ho, hb⟩
    rw [HL2.out] at ho ⊢
    have HB2 := Lib.hid (HB1.out.trans (hb.mono HB1.out.size))
    have HO2 := Lib.hid (HO1.out.below hb)
    have HP2 := Lib.hid ho
    have H2 := Lib.hid (nods_below H1.out hb)
    clear hb ho
    go_wp2_with fail
    refine (CopyL_any v l _ H2.out (by omega) HD.out).mono ?_
    rintro e w3 ⟨v3, c, rfl, ho, hcl, hb⟩
    have HB3 := Lib.hid hb
    have hlen := bare_len hcl
    obtain ⟨p, cap, rfl, hp⟩ := slice_formN ho
    rw [hlen] at ho hp ⊢
    have HP := Lib.hid hp
    have HO3 := Lib.hid ho
    have HT := Lib.hid (AnewTo.start hcl)
    obtain ⟨p1, cap1, rfl, hp1⟩ := slice_formI HO2.out
    obtain ⟨p2, cap2, rfl, hp2⟩ := slice_formI HP2.out
    have hfl := firstsL_len l l.length
    have hnl := namesN_len l l.length
    rw [hfl] at hp1
    rw [hnl] at hp2
    have HQ1 := Lib.hid hp1
    have HQ2 := Lib.hid hp2
    clear hb ho hp hcl hlen hp1 hp2
    go_wp2
    go_loopw [9, 27] (fun _ i wr => ∃ (k : Nat) (m : List Nod), k ≤ l.length ∧ i = .int .i64 k ∧ Hid (OwnNods 60 wr w2.heap.size (.slice p l.length cap) m) ∧ Hid (AnewTo l m k) ∧ Hid (Below w2.heap.size w2 wr)) (fun _ i _ => l.length - (intOf i).toNat)
    case atStart => exact ⟨0, c, by omega, rfl, HO3, HT, HB3⟩
    case round =>
      obtain ⟨k, m, hk, rfl, HOM, HTM, HBM⟩ := hrel
      by_cases hlt : k < l.length
      · obtain ⟨g, rfl, hgB⟩ := HP.out (by omega)
        obtain ⟨g1, rfl⟩ := HQ1.out (by omega)
        obtain ⟨g2, rfl⟩ := HQ2.out (by omega)
        have HZ := Lib.hid (HOM.out.putSame HTM.out.1 hlt 0 (by unfold i64; omega))
        have HBZ := Lib.hid (HBM.out.setCell (p := ⟨g, k * 12 + 2, none⟩) hgB (.int .i64 0))
        have hcz := HZ.out.2.1
        have hfz := HZ.out.2.2.1
        have hmc := (HP2.out.below HBZ.out).cell (j := k) (by omega)
        rw [namesN_at hlt] at hmc
        have hfle := fstIdx_le l k
        have HAN := Lib.hid (show anewOf l k = if 1 < manyN l l.length (fstIdx l k) then (fstIdx l k : Int) + 1 else 0 from rfl)
        have HST := Lib.hid (HTM.out.step hlt)
        have hlc := (HO2.out.below HBZ.out).cell (j := k) (by omega)
        rw [firstsL_at hlt] at hlc
        generalize manyN l l.length (fstIdx l k) = n at *
        generalize fstIdx l k = f at *
        by_cases hn : 1 < n
        · have hd : decide ((1 : Int) < (n : Int)) = true := decide_eq_true (by omega)
          have HAN2 := Lib.hid (HAN.out.trans (if_pos hn))
          have HY := Lib.hid (HZ.out.1.putSame (by rw [List.length_set]; exact HTM.out.1) hlt ((f : Int) + 1) (by unfold i64; omega))
          have HBY := Lib.hid (HBZ.out.setCell (p := ⟨g, k * 12 + 2, none⟩) hgB (.int .i64 ((f : Int) + 1)))
          have hcy := HY.out.2.1
          have hfy := HY.out.2.2.1
          have HYO := Lib.hid HY.out.1
          rw [set_again, ← HAN2.out] at HYO
          clear hn
          go_wp2
          go_roundw
          case rel => exact ⟨k + 1, _, by omega, by go_num, by rw [HAN2.out] at HYO; rw [← HAN2.out] at HYO ⊢; exact HYO, HST, HBY⟩
          case measure => simp [intOf]; omega
        · have hd : decide ((1 : Int) < (n : Int)) = false := decide_eq_false (by omega)
          have HAN2 := Lib.hid (HAN.out.trans (if_neg hn))
          have HZO := Lib.hid HZ.out.1
          rw [← HAN2.out] at HZO
          clear hn
          go_wp2
          go_roundw
          case rel => exact ⟨k + 1, _, by omega, by go_num, by rw [HAN2.out] at HZO; exact HZO, by have e := HST.out; rw [HAN2.out] at e; exact Lib.hid e, HBZ⟩
          case measure => simp [intOf]; omega
      · obtain rfl : k = l.length := by omega
        go_wp2
        go_ret2
        rw [HF.out]
        exact ⟨_, m, rfl, HOM.out.mono HB2.out.size, HTM.out.done, HB2.out.trans (HBM.out.mono HB2.out.size)⟩
  · have HF := Lib.hid (linkAnew_bad hE)
    have HL1 := Lib.hid (linkFirsts_bad hE)
    have HE := Lib.hid hE
    clear hE h hM
    go_enter Tryd.func40, Tryd.ntmps40
    go_wp2_with fail
    refine (LinkL_any v l _ HM.out H.out).mono ?_
    rintro e w1 ⟨v1, rfl, ho, hb⟩
    rw [HL1.out]
    have HB1 := Lib.hid hb
    have hne := HE.out
    clear hb ho
    generalize treeFault l = q at *
    go_wp2
    go_ret2
    rw [HF.out]
    exact ⟨_, [], rfl, OwnNods.nil _ _ _, rfl, HB1.out⟩
end Go.Proofs.YtaffgndickdbiaaDoor
/-
  Parts of a tree's slice: as slices, as sources; what is known of their nodes.
-/
namespace Go.Creel
set_option linter.unusedVariables false
set_option linter.unusedSimpArgs false
open Go.RowKit
theorem nods_take {w : World} {a : Option Addr} {n cap i : Nat} {l : List Nod} (h : SliceC maxLen 12 (NodC maxLen) w [.slice a n cap] l) (hi : i ≤ l.length) : SliceC maxLen 12 (NodC maxLen) w [.slice a i cap] (l.take i) := by
  obtain ⟨a', cap', hv, h1, h2, h3, h4, h5⟩ := h
  simp only [List.cons.injEq, Value.slice.injEq, and_true] at hv
  obtain ⟨rfl, rfl, rfl⟩ := hv
  have hl : (l.take i).length = i := by rw [List.length_take]; omega
  refine ⟨a, cap, by rw [hl], by omega, h2, by omega, h4, fun hp => ?_⟩
  obtain ⟨b, off, e, hc⟩ := h5 (by omega)
  refine ⟨b, off, e, fun k hk => ?_⟩
  obtain ⟨c, hcl, hcc, hE⟩ := hc k (by omega)
  exact ⟨c, hcl, hcc, by rw [List.getElem_take]; exact hE⟩
theorem nods_drop {w : World} {a : Option Addr} {n cap i : Nat} {l : List Nod} (h : SliceC maxLen 12 (NodC maxLen) w [.slice a n cap] l) (hi : i ≤ l.length) : SliceC maxLen 12 (NodC maxLen) w [sliced a i n cap 12] (l.drop i) := by
  obtain ⟨a', cap', hv, h1, h2, h3, h4, h5⟩ := h
  simp only [List.cons.injEq, Value.slice.injEq, and_true] at hv
  obtain ⟨rfl, rfl, rfl⟩ := hv
  have hl : (l.drop i).length = l.length - i := List.length_drop
  unfold sliced
  refine ⟨if cap = i then a else a.map (·.add (i * 12)), cap - i, by rw [hl], by omega, by omega, by omega, fun h => ?_, fun hp => ?_⟩
  · split at h
    · have := h4 h; omega
    · cases ha : a with
      | none => have := h4 ha; omega
      | some x => rw [ha] at h; cases h
  · obtain ⟨b, off, e, hc⟩ := h5 (by omega)
    refine ⟨b, off + i * 12, ?_, fun k hk => ?_⟩
    · rw [if_neg (by omega), e]
      simp only [Option.map_some, Addr.add]
      by_cases h0 : i * 12 = 0 <;> simp [h0]
    · obtain ⟨c, hcl, hcc, hE⟩ := hc (i + k) (by omega)
      refine ⟨c, hcl, fun j hj => ?_, by rw [List.getElem_drop]; exact hE⟩
      rw [← hcc j hj]
      congr 2
      omega
theorem src_nods {P : Program} {w : World} {v : Value} {l : List Nod} {tx e' : TypeId} (hk : P.underlying tx = some (.slice e')) (h : SliceC maxLen 12 (NodC maxLen) w [v] l) : Src P 12 tx v l.length (l.flatMap Nod.cells) w := by
  have hone : ∀ u ∈ l.flatMap Nod.cells, u.oneCell' = true := by
    intro u hu
    obtain ⟨x, _, hx⟩ := List.mem_flatMap.1 hu
    simp [Nod.cells] at hx
    rcases hx with rfl | rfl | rfl | rfl | rfl | rfl | rfl | rfl | rfl | rfl | rfl | rfl <;> rfl
  obtain ⟨a, cap, hv, h1, h2, h3, h4, h5⟩ := h
  simp only [List.cons.injEq, and_true] at hv
  subst hv
  cases a with
  | none =>
    have h0 : l.length = 0 := by have := h4 rfl; omega
    obtain rfl := List.eq_nil_of_length_eq_zero h0
    exact Src.ofNil w hk cap
  | some a =>
    refine Src.ofSlice w hk a l.length cap _ (flat_len l) (fun j u hu => ?_) hone
    have hj : j < l.length * 12 := by
      rcases Nat.lt_or_ge j (l.length * 12) with h | h
      · exact h
      · rw [List.getElem?_eq_none (by rw [flat_len]; exact h)] at hu; cases hu
    obtain ⟨b, off, e, hc⟩ := h5 (by omega)
    cases e
    have hjd : j = j / 12 * 12 + j % 12 := by omega
    have hj12 : j % 12 < 12 := Nat.mod_lt _ (by omega)
    have hji : j / 12 < l.length := by omega
    obtain ⟨c, hcl, hcc, hE⟩ := hc (j / 12) hji
    rw [hjd, flat_at l (j / 12) (j % 12) hji hj12, nk_eq hji, ← hE.1, ← hcc _ hj12] at hu
    rw [← hu]
    have e2 : ∀ q, (⟨b, off, none⟩ : Addr).add q = ⟨b, off + q, none⟩ := fun q => by unfold Addr.add; by_cases h0 : q = 0 <;> simp [h0]
    rw [e2]
    congr 2
    omega
theorem addr_zero (a : Option Addr) : a.map (·.add 0) = a := by cases a <;> simp [Addr.add]
theorem nods_val {w : World} {v : Value} {l : List Nod} (h : SliceC maxLen 12 (NodC maxLen) w [v] l) : ∃ a cap, v = .slice a l.length cap ∧ l.length ≤ cap ∧ cap ≤ maxLen := by
  obtain ⟨a, cap, hv, h1, h2, _⟩ := h
  exact ⟨a, cap, by simpa using hv, h1, h2⟩
theorem box_slice {w : World} {x : Nod} {t : TypeId} (hx : x.Ok maxLen w) : SliceC maxLen 12 (NodC maxLen) (w.alloc (.cells #[.string x.path, .int .i64 x.kind, .int .i64 x.same, .string x.target, .int .i64 x.mt.mode, .int .i64 x.mt.uid, .int .i64 x.mt.gid, .string x.mt.user, .string x.mt.group, .int .i64 x.mt.second, .int .i64 x.mt.nano, .slice x.da x.data.length x.dcap] t)) [.slice (some ⟨w.heap.size, 0, none⟩) 1 1] [x] := by
  refine ⟨some ⟨w.heap.size, 0, none⟩, 1, rfl, Nat.le_refl _, by unfold maxLen; omega, by unfold maxLen; simp, (fun h => by cases h), fun _ => ⟨w.heap.size, 0, rfl, fun i hi => ?_⟩⟩
  obtain rfl : i = 0 := by simp at hi; omega
  refine ⟨x.cells, rfl, fun j hj => ?_, rfl, hx.below ((Below.refl _ _).alloc (Nat.le_refl _) _)⟩
  have hz : 0 + 0 * 12 + j = j := by omega
  rw [hz, World.cell?_alloc_new]
  simp [Nod.cells]
/-- nodes whose bytes are new may lie in an older row -/
theorem fresh_in {t : TypeId} {w w0 : World} {B : Nat} {v : Value} {c m : List Nod} (hown : OwnNods t w B v c) (hm : ∀ x ∈ m, x.Ok maxLen w) (hf : ∀ x ∈ m, ∀ a, x.da = some a → w0.heap.size ≤ a.block) (hv : ∀ b, v.ownBlock = some b → b < w0.heap.size) : ∀ x, x ∈ m → NodIn w v x := by
  intro x hx
  refine ⟨hm x hx, fun a hp ha he => ?_⟩
  have h1 := hf x hx a ha
  have h2 := hv _ he
  omega
theorem OwnNods.blk {t : TypeId} {w : World} {B : Nat} {v : Value} {l : List Nod} (h : OwnNods t w B v l) : ∀ b, v.ownBlock = some b → b < w.heap.size := by
  intro b hb
  rcases h.form with ⟨rfl, _⟩ | ⟨g, cap, rfl, _, hg, _⟩
  · simp [Value.ownBlock] at hb
  · simp [Value.ownBlock] at hb; omega
theorem OwnNods.oks {t : TypeId} {w : World} {B : Nat} {v : Value} {l : List Nod} (h : OwnNods t w B v l) : ∀ x ∈ l, x.Ok maxLen w := fun x hx => (h.2 x hx).1
theorem list_dat {l : List Nod} (h : ∀ x ∈ l, x.data.length ≤ 140737488355328) : ∀ i, i < l.length → (nk l i).data.length ≤ 140737488355328 := fun i hi => by rw [nk_eq hi]; exact h _ (List.getElem_mem hi)
theorem dat_list {l : List Nod} (h : ∀ i, i < l.length → (nk l i).data.length ≤ 140737488355328) : ∀ x ∈ l, x.data.length ≤ 140737488355328 := fun x hx => by
  obtain ⟨i, hi, rfl⟩ := List.mem_iff_getElem.1 hx
  rw [← nk_eq hi]; exact h i hi
end Go.Creel
namespace Go.Proofs.YtaffgndickdbiaaDoor
set_option linter.unusedVariables false
set_option linter.unusedSimpArgs false
open Go.Creel Go.RowKit
theorem run_takeN (w : World) (a : Option Addr) (n cap i : Nat) (h : i ≤ n) (hc : n ≤ cap) : (Instr.slice 22 (.slice a n cap) none (some (.int .i64 i)) none).run Tryd.prog w = .ok (.slice a i cap) w := by
  rw [run_slice_h w 22 a n cap (by kernel_rfl) .i64 i (by omega) (by omega)]
  have hs : (sizeOf (Tryd.prog.elem 22)).run Tryd.prog w = .ok 12 w := by kernel_rfl
  rw [hs]
  simp only [Result.andThen, sliced, Int.toNat_natCast, Nat.zero_mul, addr_zero, ite_self, Nat.sub_zero]
theorem run_dropN (w : World) (a : Option Addr) (n cap i : Nat) (h : i ≤ n) (hc : n ≤ cap) : (Instr.slice 22 (.slice a n cap) (some (.int .i64 i)) none none).run Tryd.prog w = .ok (sliced a i n cap 12) w := by
  rw [run_slice_l w 22 a n cap (by kernel_rfl) .i64 i (by omega) (by omega)]
  have hs : (sizeOf (Tryd.prog.elem 22)).run Tryd.prog w = .ok 12 w := by kernel_rfl
  rw [hs]
  simp only [Result.andThen, Int.toNat_natCast]
end Go.Proofs.YtaffgndickdbiaaDoor
/-
  Changes of the call's own: their row, and where the nodes' bytes lie. No program is named here.
-/
namespace Go.Creel
set_option linter.unusedVariables false
set_option linter.unusedSimpArgs false
open Go.RowKit
def Chg.cells (c : Chg) : List Value := .int .i64 c.kind :: c.node.cells
def ck (l : List Chg) (k : Nat) : Chg := l.getD k ⟨0, nk [] 0⟩
theorem ck_eq {l : List Chg} {k : Nat} (h : k < l.length) : ck l k = l[k] := by simp [ck, List.getD_eq_getElem?_getD, List.getElem?_eq_getElem h]
/-- a change that may lie in the row of v: its node's bytes lie elsewhere -/
def ChgIn (w : World) (v : Value) (x : Chg) : Prop := i64 x.kind ∧ NodIn w v x.node
def ChgC (N : Nat) (w : World) (cs : List Value) (e : Chg) : Prop := cs = e.cells ∧ i64 e.kind ∧ e.node.Ok N w
def ChgAt (w : World) (b o : Nat) (x : Chg) : Prop := w.cell? ⟨b, o, none⟩ = some (.int .i64 x.kind) ∧ NodAt w b (o + 1) x.node
def OwnChgs (t : TypeId) (w : World) (B : Nat) (v : Value) (l : List Chg) : Prop := w.ownsRow B t 13 v l.length (l.flatMap Chg.cells) ∧ ∀ x, x ∈ l → ChgIn w v x
theorem Chg.cells_len (x : Chg) : x.cells.length = 13 := rfl
theorem flatC_len : ∀ l : List Chg, (l.flatMap Chg.cells).length = l.length * 13
  | [] => rfl
  | x :: r => by rw [List.flatMap_cons, List.length_append, flatC_len r, Chg.cells_len, List.length_cons]; omega
theorem flatC_at : ∀ (l : List Chg) (k j : Nat), k < l.length → j < 13 → (l.flatMap Chg.cells)[k * 13 + j]? = (ck l k).cells[j]?
  | [], _, _, h, _ => absurd h (by simp)
  | x :: r, 0, j, _, hj => by
    rw [List.flatMap_cons, Nat.zero_mul, Nat.zero_add, List.getElem?_append_left (by rw [Chg.cells_len]; omega)]
    rfl
  | x :: r, k + 1, j, hk, hj => by
    rw [List.flatMap_cons, List.getElem?_append_right (by rw [Chg.cells_len]; omega), Chg.cells_len]
    have e : (k + 1) * 13 + j - 13 = k * 13 + j := by omega
    rw [e, flatC_at r k j (by simpa using hk) hj]
    rfl
theorem flatC_set : ∀ (l : List Chg) (k j : Nat) (y : Chg) (u : Value), k < l.length → j < 13 → y.cells = (ck l k).cells.set j u → (l.flatMap Chg.cells).set (k * 13 + j) u = (l.set k y).flatMap Chg.cells
  | [], _, _, _, _, h, _, _ => absurd h (by simp)
  | x :: r, 0, j, y, u, _, hj, hy => by
    rw [List.flatMap_cons, Nat.zero_mul, Nat.zero_add, List.set_append_left _ _ (by rw [Chg.cells_len]; omega), List.set_cons_zero, List.flatMap_cons, hy]
    rfl
  | x :: r, k + 1, j, y, u, hk, hj, hy => by
    rw [List.flatMap_cons, List.set_append_right _ _ (by rw [Chg.cells_len]; omega), Chg.cells_len]
    have e : (k + 1) * 13 + j - 13 = k * 13 + j := by omega
    rw [e, flatC_set r k j y u (by simpa using hk) hj hy, List.set_cons_succ, List.flatMap_cons]
section
variable {t : TypeId} {w w' : World} {B : Nat} {v v' : Value} {l m : List Chg}
theorem ChgIn.below {x : Chg} (h : ChgIn w v x) (hb : Below w.heap.size w w') : ChgIn w' v x := ⟨h.1, h.2.below hb⟩
theorem OwnChgs.nil (t : TypeId) (w : World) (B : Nat) : OwnChgs t w B (.slice none 0 0) [] := ⟨World.ownsRow_nil w B t 13, fun x hx => absurd hx (by simp)⟩
theorem OwnChgs.below (h : OwnChgs t w B v l) (hb : Below w.heap.size w w') : OwnChgs t w' B v l := ⟨ownsRow_below h.1 hb, fun x hx => (h.2 x hx).below hb⟩
theorem OwnChgs.mono {B' : Nat} (h : OwnChgs t w B v l) (hb : B' ≤ B) : OwnChgs t w B' v l := by
  refine ⟨⟨h.1.1, ?_⟩, h.2⟩
  rcases h.1.2 with ⟨rfl, h0⟩ | ⟨g, cap, cur, rfl, hbg, r⟩
  · exact .inl ⟨rfl, h0⟩
  · exact .inr ⟨g, cap, cur, rfl, Nat.le_trans hb hbg, r⟩
theorem OwnChgs.slice (h : OwnChgs t w B v l) (hl : l.length ≤ maxLen) : SliceC maxLen 13 (ChgC maxLen) w [v] l := by
  rcases h.1.2 with ⟨rfl, h0⟩ | ⟨g, cap, cur, rfl, hbg, hg, hnc, hcm, hcs, htake⟩
  · obtain rfl := List.eq_nil_of_length_eq_zero h0
    exact ⟨none, 0, rfl, by simp, by simp, by simp, fun _ => rfl, fun h => absurd h (by simp)⟩
  · refine ⟨some ⟨g, 0, none⟩, cap, rfl, hnc, hcm, hl, (fun h => by cases h), fun _ => ⟨g, 0, rfl, fun i hi => ⟨(l[i]).cells, rfl, fun j hj => ?_, rfl, (h.2 _ (List.getElem_mem hi)).1, (h.2 _ (List.getElem_mem hi)).2.1⟩⟩⟩
    rw [Nat.zero_add, h.1.cellAt _ (by omega), flatC_at l i j hi hj, ck_eq hi]
theorem OwnChgs.form (h : OwnChgs t w B v l) : (v = .slice none 0 0 ∧ l = []) ∨ ∃ g cap, v = .slice (some ⟨g, 0, none⟩) l.length cap ∧ B ≤ g ∧ g < w.heap.size ∧ l.length ≤ cap ∧ cap ≤ maxLen := by
  rcases h.1.2 with ⟨rfl, h0⟩ | ⟨g, cap, cur, rfl, hbg, hg, hnc, hcm, hcs, htake⟩
  · exact .inl ⟨rfl, List.eq_nil_of_length_eq_zero h0⟩
  · exact .inr ⟨g, cap, rfl, hbg, (Array.getElem?_eq_some_iff.1 hg).1, hnc, hcm⟩
theorem OwnChgs.chgAt {g cap : Nat} (h : OwnChgs t w B (.slice (some ⟨g, 0, none⟩) l.length cap) l) {k : Nat} (hk : k < l.length) : ChgAt w g (k * 13) (ck l k) := by
  have c := fun j hj => (h.1.cellAt (k * 13 + j) (by omega)).trans (flatC_at l k j hk hj)
  exact ⟨c 0 (by omega), c 1 (by omega), c 2 (by omega), c 3 (by omega), c 4 (by omega), c 5 (by omega), c 6 (by omega), c 7 (by omega), c 8 (by omega), c 9 (by omega), c 10 (by omega), c 11 (by omega), c 12 (by omega)⟩
theorem OwnChgs.chgIn (h : OwnChgs t w B v l) {k : Nat} (hk : k < l.length) : ChgIn w v (ck l k) := by
  rw [ck_eq hk]
  exact h.2 _ (List.getElem_mem hk)
theorem OwnChgs.app (h : OwnChgs t w B v l) (hm : ∀ x, x ∈ m → ChgIn w v x) (ho : w'.ownsRow B t 13 v' (l.length + m.length) (l.flatMap Chg.cells ++ m.flatMap Chg.cells)) (hg : w.grownBy w' v.ownBlock)
    (hv : v'.ownBlock = v.ownBlock ∨ ∃ b, v'.ownBlock = some b ∧ w.heap.size ≤ b) : OwnChgs t w' B v' (l ++ m) := by
  refine ⟨by rw [List.length_append, List.flatMap_append]; exact ho, fun x hx => ?_⟩
  have hin : ChgIn w v x := by
    rcases List.mem_append.1 hx with a | a
    · exact h.2 x a
    · exact hm x a
  refine ⟨hin.1, hin.2.1.grown hg hin.2.2, fun a hp ha => ?_⟩
  rcases hv with e | ⟨b, e, hb⟩
  · rw [e]; exact hin.2.2 a hp ha
  · rw [e]
    intro e2
    have h3 := hin.2.1.lt a hp ha
    simp only [Option.some.injEq] at e2
    omega
end
end Go.Creel
/-
  diff.Of's closure: a change put behind the others.
-/
namespace Go.Creel
set_option linter.unusedVariables false
set_option linter.unusedSimpArgs false
open Go.RowKit
theorem ownsRow_else {w : World} {B size n b : Nat} {t : TypeId} {v : Value} {xs : List Value} (u : Value) (h : w.ownsRow B t size v n xs) (hne : v.ownBlock ≠ some b) : (w.setCell ⟨b, 0, none⟩ u).ownsRow B t size v n xs := by
  refine ⟨h.1, ?_⟩
  rcases h.2 with h0 | ⟨g, cap, cur, rfl, hbg, hg, r⟩
  · exact .inl h0
  · refine .inr ⟨g, cap, cur, rfl, hbg, ?_, r⟩
    rw [heap_setCell_other w ⟨b, 0, none⟩ g u (fun e => hne (by rw [e]; rfl))]
    exact hg
theorem ownsRow_form {w : World} {B size n : Nat} {t : TypeId} {v : Value} {xs : List Value} (h : w.ownsRow B t size v (n + 1) xs) : ∃ g cap, v = .slice (some ⟨g, 0, none⟩) (n + 1) cap := by
  rcases h.2 with ⟨_, h0⟩ | ⟨g, cap, cur, rfl, _⟩
  · omega
  · exact ⟨g, cap, rfl⟩
/-- what the changes so far are: a row that the box b leads to; the nodes' bytes are younger than the box -/
structure OutC (tC tS : TypeId) (w0 w : World) (b : Nat) (v : Value) (o : List Chg) : Prop where
  row : w.heap[b]? = some (.cells #[v] tS (0, 0))
  own : OwnChgs tC w (b + 1) v o
  fresh : ∀ c ∈ o, ∀ a, c.node.da = some a → b < a.block
  low : w0.heap.size ≤ b
  bel : Below w0.heap.size w0 w
section
variable {tC tS : TypeId} {w0 w w' w4 : World} {b : Nat} {v v4 : Value} {o : List Chg}
theorem OutC.lt (h : OutC tC tS w0 w b v o) : b < w.heap.size := (Array.getElem?_eq_some_iff.1 h.row).1
theorem OutC.below (h : OutC tC tS w0 w b v o) (hb : Below w.heap.size w w') : OutC tC tS w0 w' b v o :=
  ⟨(hb.block b h.lt).trans h.row, h.own.below hb, h.fresh, h.low, h.bel.trans (hb.mono h.bel.size)⟩
theorem OutC.cell (h : OutC tC tS w0 w b v o) : w.cell? ⟨b, 0, none⟩ = some v := by rw [cell_of_row w b 0 _ tS (0, 0) h.row]; rfl
theorem OutC.free (h : OutC tC tS w0 w b v o) : w.frozen? ⟨b, 0, none⟩ = false := frozen_of_row w b 0 _ tS h.row
theorem OutC.ne (h : OutC tC tS w0 w b v o) : v.ownBlock ≠ some b := fun e => by have := (World.ownsRow.lt h.own.1 b e).1; omega
theorem OutC.row4 (h : OutC tC tS w0 w b v o) (hg : w.grownBy w4 v.ownBlock) : w4.heap[b]? = some (.cells #[v] tS (0, 0)) :=
  (by obtain ⟨a1, a2, a3, a4, a5⟩ := hg; exact (a5 b h.lt (fun e => h.ne e.symm)).trans h.row)
theorem OutC.cell4 (h : OutC tC tS w0 w b v o) (hg : w.grownBy w4 v.ownBlock) : w4.cell? ⟨b, 0, none⟩ = some v := by rw [cell_of_row w4 b 0 _ tS (0, 0) (h.row4 hg)]; rfl
theorem OutC.free4 (h : OutC tC tS w0 w b v o) (hg : w.grownBy w4 v.ownBlock) : w4.frozen? ⟨b, 0, none⟩ = false := frozen_of_row w4 b 0 _ tS (h.row4 hg)
theorem fresh_node {wr W : World} {v : Value} {x : Nod} {da : Option Addr} {dc : Nat} (o : Obj) (hlt : ∀ g, v.ownBlock = some g → g < wr.heap.size) (hx : x.Ok maxLen wr) (hsl : SliceC maxLen 1 ByteC W [.slice da x.data.length dc] x.data) (hbl : ∀ a, da = some a → wr.heap.size ≤ a.block) : NodIn (W.alloc o) v (x.at da dc) := by
  refine ⟨Nod.at_ok hx (hsl.below (fun _ _ h => h) ((Below.refl _ _).alloc (Nat.le_refl _) o)), fun a _ ha e => ?_⟩
  have h1 := hbl a ha
  have h2 := hlt _ e
  omega
theorem OutC.put (h : OutC tC tS w0 w b v o) {k : Int} {n : Nod} (hx : ChgIn w v ⟨k, n⟩) (hn : ∀ a, n.da = some a → b < a.block)
    (ho : w4.ownsRow (b + 1) tC 13 v4 (o.length + 1) (o.flatMap Chg.cells ++ [⟨k, n⟩].flatMap Chg.cells)) (hg : w.grownBy w4 v.ownBlock) (hv : v4.ownBlock = v.ownBlock ∨ ∃ g, v4.ownBlock = some g ∧ w.heap.size ≤ g) :
    OutC tC tS w0 (w4.setCell ⟨b, 0, none⟩ v4) b v4 (o ++ [⟨k, n⟩]) := by
  have own4 := h.own.app (m := [⟨k, n⟩]) (fun y hy => by rw [List.mem_singleton.1 hy]; exact hx) ho hg hv
  have hf4 : ∀ c ∈ o ++ [⟨k, n⟩], ∀ a, c.node.da = some a → b < a.block := by
    intro c hc a ha
    rcases List.mem_append.1 hc with h1 | h1
    · exact h.fresh c h1 a ha
    · rw [List.mem_singleton.1 h1] at ha; exact hn a ha
  have hne4 : v4.ownBlock ≠ some b := fun e => by have := (World.ownsRow.lt own4.1 b e).1; omega
  have hgs := grownBy_setCell w4 b 0 v4
  refine ⟨?_, ⟨ownsRow_else _ own4.1 hne4, fun c hc => ?_⟩, hf4, h.low, ?_⟩
  · rw [heap_setCell_same w4 b 0 _ tS _ (h.row4 hg)]; rfl
  · obtain ⟨h1, h2, h3⟩ := own4.2 c hc
    exact ⟨h1, h2.grown hgs (fun p _ hp e => by have := hf4 c hc p hp; simp only [Option.some.injEq] at e; omega), h3⟩
  · refine Below.setCell ?_ (p := ⟨b, 0, none⟩) h.low v4
    exact h.bel.grown hg h.bel.size (fun k hk => by have := (World.ownsRow.lt h.own.1 k hk).1; have := h.low; omega)
end
/-- the cells of a change in a box as a source -/
theorem src_chg {P : Program} (w : World) {n : Nat} (hn : n = w.heap.size) (tx e' e : TypeId) (hk : P.underlying tx = some (.slice e')) (k : Int) (x : Nod) : Src P 13 tx (.slice (some ⟨n, 0, none⟩) 1 1) 1 ([(⟨k, x⟩ : Chg)].flatMap Chg.cells) (w.alloc (.cells #[.int .i64 k, .string x.path, .int .i64 x.kind, .int .i64 x.same, .string x.target, .int .i64 x.mt.mode, .int .i64 x.mt.uid, .int .i64 x.mt.gid, .string x.mt.user, .string x.mt.group, .int .i64 x.mt.second, .int .i64 x.mt.nano, .slice x.da x.data.length x.dcap] e)) := by
  subst hn
  refine Src.ofSlice _ hk ⟨w.heap.size, 0, none⟩ 1 1 _ rfl (fun j u hu => ?_) (fun u hu => ?_)
  · have hj : j < 13 := by
      rcases Nat.lt_or_ge j 13 with h | h
      · exact h
      · rw [List.getElem?_eq_none (by simpa [Chg.cells, Nod.cells] using h)] at hu; cases hu
    have e : (⟨w.heap.size, 0, none⟩ : Addr).add j = ⟨w.heap.size, j, none⟩ := by unfold Addr.add; split <;> simp_all
    rw [e, World.cell?_alloc_new]
    simpa [Chg.cells, Nod.cells] using hu
  · simp [Chg.cells, Nod.cells] at hu
    rcases hu with rfl | rfl | rfl | rfl | rfl | rfl | rfl | rfl | rfl | rfl | rfl | rfl | rfl <;> rfl
end Go.Creel
namespace Go.Proofs.YtaffgndickdbiaaDoor
set_option linter.unusedVariables false
set_option linter.unusedSimpArgs false
open Go.Creel Go.RowKit
abbrev tChg : TypeId := 62
abbrev tChgs : TypeId := 23
theorem info_chg : (Tryd.prog.info? 62).map (fun i => (i.zero, i.size, i.bytes)) = some (some (.agg #[.int .i64 0, .string ⟨#[]⟩, .int .i64 0, .int .i64 0, .string ⟨#[]⟩, .int .i64 0, .int .i64 0, .int .i64 0, .string ⟨#[]⟩, .string ⟨#[]⟩, .int .i64 0, .int .i64 0, .slice none 0 0]), 13, 152) := by kernel_rfl
set_option maxRecDepth 100000 in
set_option maxHeartbeats 4000000 in
theorem Note_any (b : Nat) (k : Int) (x : Nod) (w0 w : World) (v : Value) (o : List Chg) (h : OutC tChg tChgs w0 w b v o) (hk : i64 k) (hx : x.Ok maxLen w) (hxl : x.data.length ≤ 140737488355328) (hol : o.length ≤ 1000000) :
    Calls Tryd.prog 30 #[.int .i64 k, x.val, .pointer (some ⟨b, 0, none⟩)] w fun e w' => e = .returned (.tuple #[]) ∧ ∃ v' n, n.bare = x.bare ∧ OutC tChg tChgs w0 w' b v' (o ++ [⟨k, n⟩]) := by
  obtain ⟨i0, hi, hz0, hz1, hz2⟩ := info_parts info_chg
  have HI := Lib.hid (And.intro hi (And.intro hz0 (And.intro hz1 hz2)))
  clear hi hz0 hz1 hz2
  obtain ⟨i1, hi, hz0, hz1, hz2⟩ := info_parts info_byte
  have HJ := Lib.hid (And.intro hi (And.intro hz0 (And.intro hz1 hz2)))
  have H := Lib.hid h
  have HX := Lib.hid hx
  have HK := Lib.hid hk
  have hbx := (Below.refl w.heap.size w).alloc (Nat.le_refl _) (boxOf x)
  have HBX := Lib.hid hbx
  have hlt := h.lt
  have hne1 : b ≠ w.heap.size := by omega
  have hne2 : w.heap.size ≠ b := by omega
  have hxd : SliceC maxLen 1 ByteC (w.alloc (boxOf x)) [.slice x.da x.data.length x.dcap] x.data := hx.data.below (fun _ _ h => h) hbx
  have happ : ∀ ty, AppTo Tryd.prog (w.alloc (boxOf x)) 38 38 ty (.slice none 0 0) (.slice x.da x.data.length x.dcap) (w.alloc (boxOf x)).heap.size 5 1 0 x.data.length [] (x.data.map byteV) := fun ty => app_bytes (l := []) (w.alloc (boxOf x)) 38 38 5 5 i1 Tryd.underlying38 Tryd.underlying38 HJ.out.1 HJ.out.2.1 HJ.out.2.2.1 HJ.out.2.2.2 (OwnBs.nil _ _ _) hxd (by simp; omega) (Nat.le_refl _) ty
  have HAPP := Lib.hid happ
  clear happ hbx hxd hi hz0 hz1 hz2 h hx hk
  go_enter Tryd.func30, Tryd.ntmps30
  go_upto_region 2 with (at_builtin; refine wpList_app _ rfl (.const (.slice none 0 0)) (.tmp 6) 38 38 rfl _ _ rfl rfl HAPP.out ?_; intro v1 w2 ho hg _; obtain ⟨da, dc, rfl, HP2⟩ := copied_bytes (by unfold maxLen; omega) ho hg; obtain ⟨⟨c0, c1, c2, c3, c4, c5, c6, c7, c8, c9, c10, c11⟩, hfz, _⟩ := HP2.out; simp only [Nat.zero_add] at c1 c2 c3 c4 c5 c6 c7 c8 c9 c10 c11; clear ho hg)
  have H2 := Lib.hid (H.out.below HP2.out.2.2.1)
  have d0 := H2.out.cell
  rw [World.cell?_setCell_other _ _ _ _ (fun e => hne2 (congrArg Addr.block e))] at d0
  have H3 := Lib.hid (H2.out.below ((Below.refl _ _).alloc (Nat.le_refl _) (.cells #[.int .i64 k, .string x.path, .int .i64 x.kind, .int .i64 x.same, .string x.target, .int .i64 x.mt.mode, .int .i64 x.mt.uid, .int .i64 x.mt.gid, .string x.mt.user, .string x.mt.group, .int .i64 x.mt.second, .int .i64 x.mt.nano, .slice da x.data.length dc] tChg)))
  have HN3 := Lib.hid (show ChgIn _ v ⟨k, x.at da dc⟩ from ⟨HK.out, fresh_node (.cells #[.int .i64 k, .string x.path, .int .i64 x.kind, .int .i64 x.same, .string x.target, .int .i64 x.mt.mode, .int .i64 x.mt.uid, .int .i64 x.mt.gid, .string x.mt.user, .string x.mt.group, .int .i64 x.mt.second, .int .i64 x.mt.nano, .slice da x.data.length dc] tChg) (fun g e => (World.ownsRow.lt H.out.own.1 g e).2) HX.out HP2.out.2.2.2.1 HP2.out.2.2.2.2⟩)
  go_wp2_with (at_builtin; refine wpList_app _ rfl (.tmp 9) (.tmp 13) 23 23 rfl _ _ rfl rfl (fun ty => app_src _ 23 23 ty (b + 1) 62 i0 _ 13 152 Tryd.underlying23 HI.out.1 HI.out.2.1 HI.out.2.2.1 HI.out.2.2.2 rfl (by decide) _ _ o.length 1 _ _ H3.out.own.1 (src_chg _ (show w2.heap.size = _ by simp) _ _ _ Tryd.underlying23 k (x.at da dc)) (by unfold maxLen; omega) (by omega) H3.out.lt) ?_; intro v4 w4 ho2 hg2 hv2; have HZ := Lib.hid (And.intro ho2 (And.intro hg2 hv2.2)); have e1 := H3.out.cell4 hg2; have e2 := H3.out.free4 hg2; obtain ⟨g4, cp4, rfl⟩ := ownsRow_form ho2; clear ho2 hg2 hv2)
  go_end0
  exact ⟨rfl, _, x.at da dc, rfl, H3.out.put HN3.out (fun a ha => by have := HP2.out.2.2.2.2 a ha; omega) HZ.out.1 HZ.out.2.1 HZ.out.2.2⟩
end Go.Proofs.YtaffgndickdbiaaDoor
/-
  diff.same and creelref.sameNode.
-/
namespace Go.Creel
set_option linter.unusedVariables false
open Go.RowKit
open Classical in
/-- two nodes are the same, whatever their numbers tell -/
noncomputable def sameB (x y : Nod) : Bool := decide (x.path = y.path ∧ x.kind = y.kind ∧ x.target = y.target ∧ x.mt = y.mt ∧ x.data = y.data)
theorem sameB_t {x y : Nod} (h1 : x.path = y.path) (h2 : x.kind = y.kind) (h3 : x.target = y.target) (h4 : x.mt = y.mt) (h5 : x.data = y.data) : sameB x y = true := by unfold sameB; simp [h1, h2, h3, h4, h5]
theorem sameB_p {x y : Nod} (h : ¬ x.path = y.path) : sameB x y = false := by unfold sameB; simp [h]
theorem sameB_k {x y : Nod} (h : ¬ x.kind = y.kind) : sameB x y = false := by unfold sameB; simp [h]
theorem sameB_g {x y : Nod} (h : ¬ x.target = y.target) : sameB x y = false := by unfold sameB; simp [h]
theorem sameB_m {x y : Nod} (h : ¬ x.mt = y.mt) : sameB x y = false := by unfold sameB; simp [h]
theorem sameB_d {x y : Nod} (h : ¬ x.data = y.data) : sameB x y = false := by unfold sameB; simp [h]
theorem same_bare {x y : Nod} : x.bare = y.bare ↔ sameB x y = true ∧ x.same = y.same := by
  constructor
  · intro h
    obtain ⟨h1, h2, h3, h4, h5, h6⟩ := bare_parts h
    exact ⟨sameB_t h1 h2 h4 h5 h6, h3⟩
  · rintro ⟨h, hs⟩
    obtain ⟨h1, h2, h4, h5, h6⟩ : x.path = y.path ∧ x.kind = y.kind ∧ x.target = y.target ∧ x.mt = y.mt ∧ x.data = y.data := by unfold sameB at h; simpa using h
    obtain ⟨p, k, s, t, m, da, dc, d⟩ := x
    obtain ⟨p', k', s', t', m', da', dc', d'⟩ := y
    simp only at *
    subst h1 h2 hs h4 h5 h6
    rfl
end Go.Creel
namespace Go.Proofs.YtaffgndickdbiaaDoor
set_option linter.unusedVariables false
set_option linter.unusedSimpArgs false
open Go.Creel Go.RowKit
set_option maxRecDepth 100000 in
set_option maxHeartbeats 1000000 in
theorem Same_any {N : Nat} (x y : Nod) (w : World) (hx : SliceC N 1 ByteC w [.slice x.da x.data.length x.dcap] x.data) (hy : SliceC N 1 ByteC w [.slice y.da y.data.length y.dcap] y.data) :
    Calls Tryd.prog 32 #[x.val, y.val] w fun e w' => e = .returned (.bool (sameB x y)) ∧ Below w.heap.size w w' := by
  have HB := Lib.hid fun o1 o2 : Obj => ((Below.refl w.heap.size w).alloc (Nat.le_refl _) o1).alloc (by simp) o2
  have cx := conv2 w hx
  have cy := conv2 w hy
  clear hx hy
  by_cases hp : x.path = y.path
  · have q1 := seq_t hp
    by_cases hk : x.kind = y.kind
    · have q2 : (x.kind == y.kind) = true := by rw [hk]; simp
      by_cases ht : x.target = y.target
      · have q3 := seq_t ht
        by_cases hm : x.mt = y.mt
        · by_cases hd : x.data = y.data
          · have HF := Lib.hid (sameB_t hp hk ht hm hd)
            have q5 : ((ofL x.data).toList == (ofL y.data).toList) = true := by rw [hd]; simp
            clear hp hk ht hd
            obtain ⟨p, k, s, t, m, da, dc, d⟩ := x
            obtain ⟨p', k', s', t', m', da', dc', d'⟩ := y
            obtain rfl : m = m' := hm
            go_enter Tryd.func32, Tryd.ntmps32
            go_wp2
            all_goals first
              | (exfalso; simp_all; done)
              | (go_ret; exact ⟨ret_b HF.out, HB.out _ _⟩)
          · have HF := Lib.hid (sameB_d hd)
            have q5 : ((ofL x.data).toList == (ofL y.data).toList) = false := seq_f (fun e => hd (ofL_inj e))
            clear hp hk ht hd
            obtain ⟨p, k, s, t, m, da, dc, d⟩ := x
            obtain ⟨p', k', s', t', m', da', dc', d'⟩ := y
            obtain rfl : m = m' := hm
            go_enter Tryd.func32, Tryd.ntmps32
            go_wp2
            all_goals first
              | (exfalso; simp_all; done)
              | (go_ret; exact ⟨ret_b HF.out, HB.out _ _⟩)
        · have HF := Lib.hid (sameB_m hm)
          have HM := Lib.hid hm
          clear hp hk ht hm
          go_enter Tryd.func32, Tryd.ntmps32
          go_wp2
          all_goals first
            | (exfalso; exact HM.out (meta_same (by assumption) (by assumption) (by assumption) (by assumption) (by assumption) (by assumption) (by assumption)))
            | (go_ret; exact ⟨ret_b HF.out, HB.out _ _⟩)
      · have HF := Lib.hid (sameB_g ht)
        have q3 := seq_f ht
        clear hp hk ht
        go_enter Tryd.func32, Tryd.ntmps32
        go_wp2
        go_ret
        exact ⟨ret_b HF.out, HB.out _ _⟩
    · have HF := Lib.hid (sameB_k hk)
      have q2 : (x.kind == y.kind) = false := by rw [beq_eq_false_iff_ne]; exact hk
      clear hp hk
      go_enter Tryd.func32, Tryd.ntmps32
      go_wp2
      go_ret
      exact ⟨ret_b HF.out, HB.out _ _⟩
  · have HF := Lib.hid (sameB_p hp)
    have q1 := seq_f hp
    clear hp
    go_enter Tryd.func32, Tryd.ntmps32
    go_wp2
    go_ret
    exact ⟨ret_b HF.out, HB.out _ _⟩
set_option maxRecDepth 100000 in
set_option maxHeartbeats 1000000 in
theorem SameR_any {N : Nat} (x y : Nod) (w : World) (hx : SliceC N 1 ByteC w [.slice x.da x.data.length x.dcap] x.data) (hy : SliceC N 1 ByteC w [.slice y.da y.data.length y.dcap] y.data) :
    Calls Tryd.prog 36 #[x.val, y.val] w fun e w' => e = .returned (.bool (sameB x y)) ∧ Below w.heap.size w w' := by
  have HB := Lib.hid fun o1 o2 : Obj => ((Below.refl w.heap.size w).alloc (Nat.le_refl _) o1).alloc (by simp) o2
  have cx := conv2 w hx
  have cy := conv2 w hy
  clear hx hy
  by_cases hp : x.path = y.path
  · have q1 := seq_t hp
    by_cases hk : x.kind = y.kind
    · have q2 : (x.kind == y.kind) = true := by rw [hk]; simp
      by_cases ht : x.target = y.target
      · have q3 := seq_t ht
        by_cases hm : x.mt = y.mt
        · by_cases hd : x.data = y.data
          · have HF := Lib.hid (sameB_t hp hk ht hm hd)
            have q5 : ((ofL x.data).toList == (ofL y.data).toList) = true := by rw [hd]; simp
            clear hp hk ht hd
            obtain ⟨p, k, s, t, m, da, dc, d⟩ := x
            obtain ⟨p', k', s', t', m', da', dc', d'⟩ := y
            obtain rfl : m = m' := hm
            go_enter Tryd.func36, Tryd.ntmps36
            go_wp2
            all_goals first
              | (exfalso; simp_all; done)
              | (go_ret; exact ⟨ret_b HF.out, HB.out _ _⟩)
          · have HF := Lib.hid (sameB_d hd)
            have q5 : ((ofL x.data).toList == (ofL y.data).toList) = false := seq_f (fun e => hd (ofL_inj e))
            clear hp hk ht hd
            obtain ⟨p, k, s, t, m, da, dc, d⟩ := x
            obtain ⟨p', k', s', t', m', da', dc', d'⟩ := y
            obtain rfl : m = m' := hm
            go_enter Tryd.func36, Tryd.ntmps36
            go_wp2
            all_goals first
              | (exfalso; simp_all; done)
              | (go_ret; exact ⟨ret_b HF.out, HB.out _ _⟩)
        · have HF := Lib.hid (sameB_m hm)
          have HM := Lib.hid hm
          clear hp hk ht hm
          go_enter Tryd.func36, Tryd.ntmps36
          go_wp2
          all_goals first
            | (exfalso; exact HM.out (meta_same (by assumption) (by assumption) (by assumption) (by assumption) (by assumption) (by assumption) (by assumption)))
            | (go_ret; exact ⟨ret_b HF.out, HB.out _ _⟩)
      · have HF := Lib.hid (sameB_g ht)
        have q3 := seq_f ht
        clear hp hk ht
        go_enter Tryd.func36, Tryd.ntmps36
        go_wp2
        go_ret
        exact ⟨ret_b HF.out, HB.out _ _⟩
    · have HF := Lib.hid (sameB_k hk)
      have q2 : (x.kind == y.kind) = false := by rw [beq_eq_false_iff_ne]; exact hk
      clear hp hk
      go_enter Tryd.func36, Tryd.ntmps36
      go_wp2
      go_ret
      exact ⟨ret_b HF.out, HB.out _ _⟩
  · have HF := Lib.hid (sameB_p hp)
    have q1 := seq_f hp
    clear hp
    go_enter Tryd.func36, Tryd.ntmps36
    go_wp2
    go_ret
    exact ⟨ret_b HF.out, HB.out _ _⟩
end Go.Proofs.YtaffgndickdbiaaDoor
/-
  diff.Of, walked.
-/
namespace Go.Creel
set_option linter.unusedVariables false
set_option linter.unusedSimpArgs false
open Go.RowKit
theorem othN_bare {x y n : Nod} (h : n.bare = y.bare) (hne : ¬ x.bare = y.bare) : [(⟨3, n⟩ : Chg)].map Chg.bare = (othN x y).map Chg.bare := by
  unfold othN; rw [if_neg hne]; simp [Chg.bare, h]
theorem othN_same {x y : Nod} (h : x.bare = y.bare) : othN x y = [] := by unfold othN; rw [if_pos h]
/-- where the walk stands: what was said, and what is left -/
def DiffTo (a b : List Nod) (i k : Nat) (o : List Chg) : Prop := o.map Chg.bare ++ (diffL (a.drop i) (b.drop k)).map Chg.bare = (diffL a b).map Chg.bare
section
variable {a b : List Nod} {i k : Nat} {o : List Chg} {n : Nod}
theorem drop_nk {l : List Nod} {i : Nat} (h : i < l.length) : l.drop i = nk l i :: l.drop (i + 1) := by rw [List.drop_eq_getElem_cons h, nk_eq h]
theorem DiffTo.start (a b : List Nod) : DiffTo a b 0 0 [] := by unfold DiffTo; simp
theorem DiffTo.done (h : DiffTo a b a.length b.length o) : o.map Chg.bare = (diffL a b).map Chg.bare := by
  unfold DiffTo at h; rw [List.drop_length, List.drop_length, diffL_nil] at h; simpa using h
theorem DiffTo.step {d : List Chg} {i' k' : Nat} {o' : List Chg} (h : DiffTo a b i k o) (hd : diffL (a.drop i) (b.drop k) = d ++ diffL (a.drop i') (b.drop k')) (ho : o'.map Chg.bare = d.map Chg.bare) : DiffTo a b i' k' (o ++ o') := by
  unfold DiffTo at h ⊢
  rw [← h, hd, List.map_append, List.map_append, ho, List.append_assoc]
theorem DiffTo.left (h : DiffTo a b i b.length o) (hi : i < a.length) (hn : n.bare = (nk a i).bare) : DiffTo a b (i + 1) b.length (o ++ [⟨1, n⟩]) :=
  h.step (d := [⟨1, nk a i⟩]) (by rw [drop_nk hi, List.drop_length, diffL_left]; rfl) (by simp [Chg.bare, hn])
theorem DiffTo.right (h : DiffTo a b a.length k o) (hk : k < b.length) (hn : n.bare = (nk b k).bare) : DiffTo a b a.length (k + 1) (o ++ [⟨2, n⟩]) :=
  h.step (d := [⟨2, nk b k⟩]) (by rw [drop_nk hk, List.drop_length, diffL_nil, diffL_nil]; rfl) (by simp [Chg.bare, hn])
theorem DiffTo.lt (h : DiffTo a b i k o) (hi : i < a.length) (hk : k < b.length) (e : ordN (nk a i) (nk b k) = -1) (hn : n.bare = (nk a i).bare) : DiffTo a b (i + 1) k (o ++ [⟨1, n⟩]) :=
  h.step (d := [⟨1, nk a i⟩]) (by rw [drop_nk hi, drop_nk hk, diffL_lt e]; rfl) (by simp [Chg.bare, hn])
theorem DiffTo.gt (h : DiffTo a b i k o) (hi : i < a.length) (hk : k < b.length) (e : ordN (nk a i) (nk b k) = 1) (hn : n.bare = (nk b k).bare) : DiffTo a b i (k + 1) (o ++ [⟨2, n⟩]) :=
  h.step (d := [⟨2, nk b k⟩]) (by rw [drop_nk hi, drop_nk hk, diffL_gt e]; rfl) (by simp [Chg.bare, hn])
theorem DiffTo.eq (h : DiffTo a b i k o) (hi : i < a.length) (hk : k < b.length) (e : ordN (nk a i) (nk b k) = 0) (hne : ¬ (nk a i).bare = (nk b k).bare) (hn : n.bare = (nk b k).bare) : DiffTo a b (i + 1) (k + 1) (o ++ [⟨3, n⟩]) :=
  h.step (d := othN (nk a i) (nk b k)) (by rw [drop_nk hi, drop_nk hk, diffL_eq e]) (othN_bare hn hne)
theorem DiffTo.same (h : DiffTo a b i k o) (hi : i < a.length) (hk : k < b.length) (e : ordN (nk a i) (nk b k) = 0) (hs : (nk a i).bare = (nk b k).bare) : DiffTo a b (i + 1) (k + 1) o := by
  have := h.step (d := othN (nk a i) (nk b k)) (o' := []) (i' := i + 1) (k' := k + 1) (by rw [drop_nk hi, drop_nk hk, diffL_eq e]) (by rw [othN_same hs])
  simpa using this
theorem DiffTo.len (h : DiffTo a b i k o) : o.length ≤ a.length + b.length := by
  have := congrArg List.length h
  have h2 := diffL_len a b
  simp at this
  omega
end
open Classical in
/-- do two nodes differ, their numbers as well? -/
noncomputable def othB (x y : Nod) : Bool := if x.bare = y.bare then false else true
theorem othB_f {x y : Nod} (h : sameB x y = false) : othB x y = true := by
  unfold othB; rw [if_neg]; intro e; rw [(same_bare.1 e).1] at h; cases h
theorem othB_n {x y : Nod} (h : ¬ x.same = y.same) : othB x y = true := by
  unfold othB; rw [if_neg]; intro e; exact h (same_bare.1 e).2
theorem othB_s {x y : Nod} (h : sameB x y = true) (h2 : x.same = y.same) : othB x y = false := by
  unfold othB; rw [if_pos (same_bare.2 ⟨h, h2⟩)]
theorem othB_iff {x y : Nod} (h : othB x y = true) : ¬ x.bare = y.bare := fun e => by unfold othB at h; rw [if_pos e] at h; cases h
theorem othB_no {x y : Nod} (h : othB x y = false) : x.bare = y.bare := Classical.byContradiction fun e => by unfold othB at h; rw [if_neg e] at h; cases h
/-- changes of the call's own, and a number -/
def RetCE (t : TypeId) (w : World) (p : List Chg × Int) (e : Ending) (w' : World) : Prop := ∃ v l', e = .returned (.tuple #[v, .int .i64 p.2]) ∧ OwnChgs t w' w.heap.size v l' ∧ l'.map Chg.bare = p.1.map Chg.bare ∧ Below w.heap.size w w'
/-- a slice of nodes, its row told where there is one -/
theorem nods_row {w : World} {v : Value} {l : List Nod} (h : SliceC maxLen 12 (NodC maxLen) w [v] l) : ∃ p cap, v = .slice p l.length cap ∧ l.length ≤ cap ∧ cap ≤ maxLen ∧ (0 < l.length → ∃ b off, p = some ⟨b, off, none⟩ ∧ NodsAt w b off l ∧ ∀ i, i < l.length → (nk l i).Ok maxLen w) := by
  rcases nods_cases h with ⟨a, cap, rfl, rfl, h1, h2⟩ | ⟨b, off, cap, rfl, h1, h2, h3, h6, h4, h5⟩
  · exact ⟨a, cap, rfl, by simp, h1, fun h => absurd h (by simp)⟩
  · exact ⟨_, cap, rfl, h2, h3, fun _ => ⟨b, off, rfl, h4, h5⟩⟩
end Go.Creel
namespace Go.Proofs.YtaffgndickdbiaaDoor
set_option linter.unusedVariables false
set_option linter.unusedSimpArgs false
open Go.Creel Go.RowKit
set_option maxRecDepth 100000 in
set_option maxHeartbeats 4000000 in
theorem DiffL_ok (v1 v2 : Value) (a b : List Nod) (w : World) (hM : MaxOk w) (ha : SliceC maxLen 12 (NodC maxLen) w [v1] a) (hb : SliceC maxLen 12 (NodC maxLen) w [v2] b) (hEA : treeFault a = 0) (hEB : treeFault b = 0) :
    Calls Tryd.prog 9 #[v1, v2] w (RetCE tChg w (diffL a b, 0)) := by
  have HM := Lib.hid hM
  have HSA := Lib.hid ha
  have HSB := Lib.hid hb
  obtain ⟨p1, cp1, rfl, hcl1, hcm1, hr1⟩ := nods_row ha
  obtain ⟨p2, cp2, rfl, hcl2, hcm2, hr2⟩ := nods_row hb
  have HA := Lib.hid hr1
  have HB := Lib.hid hr2
  have hfa := (treeFault_all hEA).1
  have hfb := (treeFault_all hEB).1
  have HDA := Lib.hid (treeFault_dat hEA)
  have HDB := Lib.hid (treeFault_dat hEB)
  have HPA := Lib.hid (fun k (hk : k < a.length) => show (nk a k).path.size ≤ 1048576 from Nat.le_trans (nodFault_size ((treeFault_all hEA).2 k hk)) (by omega))
  have HPB := Lib.hid (fun k (hk : k < b.length) => show (nk b k).path.size ≤ 1048576 from Nat.le_trans (nodFault_size ((treeFault_all hEB).2 k hk)) (by omega))
  have HCA := Lib.hid (fun w hM (h : SliceC maxLen 12 (NodC maxLen) w [.slice p1 a.length cp1] a) => TreeCheck_any _ a w hM h)
  have HCB := Lib.hid (fun w hM (h : SliceC maxLen 12 (NodC maxLen) w [.slice p2 b.length cp2] b) => TreeCheck_any _ b w hM h)
  rw [hEA] at HCA
  rw [hEB] at HCB
  unfold maxLen at hcm1 hcm2
  clear hM ha hb hr1 hr2 hEA hEB
  go_enter Tryd.func9, Tryd.ntmps9
  go_wp2_with fail
  refine (HCA.out _ HM.out HSA.out).mono ?_
  rintro e w1 ⟨rfl, hb⟩
  have HB1 := Lib.hid hb
  clear hb
  go_wp2_with fail
  refine (HCB.out _ (HM.out.below HB1.out) (nods_below HSB.out HB1.out)).mono ?_
  rintro e w2 ⟨rfl, hb⟩
  have HB2 := Lib.hid (HB1.out.trans (hb.mono HB1.out.size))
  have HM2 := Lib.hid (HM.out.below HB2.out)
  clear hb
  have HO0 := Lib.hid (show OutC tChg tChgs w (w2.alloc (.cells #[.slice none 0 0] tChgs)) w2.heap.size (.slice none 0 0) [] from
    ⟨heap_alloc_new w2 _, OwnChgs.nil _ _ _, fun c hc => absurd hc (by simp), HB2.out.size, HB2.out.alloc HB2.out.size _⟩)
  go_wp2
  generalize w2.heap.size = bo at *
  go_loopw [10, 11, 12] (fun v10 v11 _ wr => ∃ (i k : Nat) (vo : Value) (o : List Chg), i ≤ a.length ∧ k ≤ b.length ∧ v10 = .int .i64 i ∧ v11 = .int .i64 k ∧ Hid (DiffTo a b i k o) ∧ Hid (OutC tChg tChgs w wr bo vo o)) (fun v10 v11 _ _ => (a.length - (intOf v10).toNat) + (b.length - (intOf v11).toNat))
  case atStart => exact ⟨0, 0, _, [], by omega, by omega, rfl, rfl, Lib.hid (DiffTo.start a b), HO0⟩
  case round =>
    obtain ⟨i, k, vo, o, hi, hk, rfl, rfl, HD, HO⟩ := hrel
    have hol := HD.out.len
    have HWB := Lib.hid HO.out.bel
    by_cases hia : i < a.length
    · obtain ⟨b1, o1, rfl, hc1, hk1⟩ := HA.out (by omega)
      obtain ⟨h0, h1, h2, h3, h4, h5, h6, h7, h8, h9, h10, h11⟩ := (hc1.below HWB.out) i hia
      have HX := Lib.hid ((hk1 i hia).below HWB.out)
      have hxd := HDA.out i hia
      by_cases hkb : k < b.length
      · obtain ⟨b2, o2, rfl, hc2, hk2⟩ := HB.out (by omega)
        have HXA := Lib.hid ((hc1.below HWB.out) i hia)
        have HYA := Lib.hid ((hc2.below HWB.out) k hkb)
        obtain ⟨g0, g1, g2, g3, g4, g5, g6, g7, g8, g9, g10, g11⟩ := HYA.out
        have HY := Lib.hid ((hk2 k hkb).below HWB.out)
        have hyd := HDB.out k hkb
        have hxp := HPA.out i hia
        have hyp := HPB.out k hkb
        have HLT := Lib.hid (fun e n hn => HD.out.lt (n := n) hia hkb e hn)
        have HGT := Lib.hid (fun e n hn => HD.out.gt (n := n) hia hkb e hn)
        have HEQ := Lib.hid (fun e hne n hn => HD.out.eq (n := n) hia hkb e hne hn)
        have HSM := Lib.hid (fun e hs => HD.out.same hia hkb e hs)
        have HRG := Lib.hid (ordN_range (nk a i) (nk b k))
        have HCMP := Lib.hid (fun w hM => Compare_any (nk a i).path (nk b k).path w hM hxp hyp)
        rw [show ordP (pathParts (nk a i).path) (pathParts (nk b k).path) = ordN (nk a i) (nk b k) from rfl] at HCMP
        clear hxp hyp hc1 hk1 hc2 hk2
        generalize nk a i = x at *
        generalize nk b k = y at *
        generalize ordN x y = c at *
        go_upto_region 12 with fail
        go_still_tail 10, (by kernel_rfl)
        go_wp2_with fail
        refine (HCMP.out _ ((HM.out.below HWB.out).below (Below.refl _ _).drew)).mono ?_
        rintro e wc ⟨rfl, hb⟩
        have HBC := Lib.hid ((Below.refl wr.heap.size wr).drew.trans hb)
        clear hb
        have HO1 := Lib.hid (HO.out.below HBC.out)
        have HX1 := Lib.hid (HX.out.below HBC.out)
        have HY1 := Lib.hid (HY.out.below HBC.out)
        have HXA1 := Lib.hid (HXA.out.below HBC.out)
        have HYA1 := Lib.hid (HYA.out.below HBC.out)
        clear h0 h1 h2 h3 h4 h5 h6 h7 h8 h9 h10 h11 g0 g1 g2 g3 g4 g5 g6 g7 g8 g9 g10 g11
        obtain ⟨h0, h1, h2, h3, h4, h5, h6, h7, h8, h9, h10, h11⟩ := HXA1.out
        obtain ⟨g0, g1, g2, g3, g4, g5, g6, g7, g8, g9, g10, g11⟩ := HYA1.out
        rcases HRG.out with rfl | rfl | rfl
        · have HNC := Lib.hid (Note_any bo 1 x w wc vo o HO1.out (by unfold i64; omega) HX1.out hxd (by omega))
          clear HGT HEQ HSM HRG
          go_wp2_with (go_at_call 30; refine HNC.out.mono ?_; rintro e w' ⟨rfl, v', n, hn, hO'⟩; have HN' := Lib.hid hn; have HO' := Lib.hid hO'; clear hn hO')
          go_roundw
          case rel => exact ⟨i + 1, k, _, _, by omega, by omega, by go_num, rfl, Lib.hid (HLT.out (by trivial) n HN'.out), HO'⟩
          case measure => simp [intOf]; omega
        · have HS0 := Lib.hid (fun W (hB : Below wc.heap.size wc W) => show Calls Tryd.prog 32 #[x.val, y.val] W (fun e w' => e = .returned (.bool (sameB x y)) ∧ w'.cell? ⟨b1, o1 + i * 12, none⟩ = some (.string x.path) ∧ w'.cell? ⟨b1, o1 + i * 12 + 1, none⟩ = some (.int .i64 x.kind) ∧ w'.cell? ⟨b1, o1 + i * 12 + 2, none⟩ = some (.int .i64 x.same) ∧ w'.cell? ⟨b1, o1 + i * 12 + 3, none⟩ = some (.string x.target) ∧ w'.cell? ⟨b1, o1 + i * 12 + 4, none⟩ = some (.int .i64 x.mt.mode) ∧ w'.cell? ⟨b1, o1 + i * 12 + 5, none⟩ = some (.int .i64 x.mt.uid) ∧ w'.cell? ⟨b1, o1 + i * 12 + 6, none⟩ = some (.int .i64 x.mt.gid) ∧ w'.cell? ⟨b1, o1 + i * 12 + 7, none⟩ = some (.string x.mt.user) ∧ w'.cell? ⟨b1, o1 + i * 12 + 8, none⟩ = some (.string x.mt.group) ∧ w'.cell? ⟨b1, o1 + i * 12 + 9, none⟩ = some (.int .i64 x.mt.second) ∧ w'.cell? ⟨b1, o1 + i * 12 + 10, none⟩ = some (.int .i64 x.mt.nano) ∧ w'.cell? ⟨b1, o1 + i * 12 + 11, none⟩ = some (.slice x.da x.data.length x.dcap) ∧ w'.cell? ⟨b2, o2 + k * 12, none⟩ = some (.string y.path) ∧ w'.cell? ⟨b2, o2 + k * 12 + 1, none⟩ = some (.int .i64 y.kind) ∧ w'.cell? ⟨b2, o2 + k * 12 + 2, none⟩ = some (.int .i64 y.same) ∧ w'.cell? ⟨b2, o2 + k * 12 + 3, none⟩ = some (.string y.target) ∧ w'.cell? ⟨b2, o2 + k * 12 + 4, none⟩ = some (.int .i64 y.mt.mode) ∧ w'.cell? ⟨b2, o2 + k * 12 + 5, none⟩ = some (.int .i64 y.mt.uid) ∧ w'.cell? ⟨b2, o2 + k * 12 + 6, none⟩ = some (.int .i64 y.mt.gid) ∧ w'.cell? ⟨b2, o2 + k * 12 + 7, none⟩ = some (.string y.mt.user) ∧ w'.cell? ⟨b2, o2 + k * 12 + 8, none⟩ = some (.string y.mt.group) ∧ w'.cell? ⟨b2, o2 + k * 12 + 9, none⟩ = some (.int .i64 y.mt.second) ∧ w'.cell? ⟨b2, o2 + k * 12 + 10, none⟩ = some (.int .i64 y.mt.nano) ∧ w'.cell? ⟨b2, o2 + k * 12 + 11, none⟩ = some (.slice y.da y.data.length y.dcap) ∧ Below wc.heap.size wc w') from
            (Same_any x y W (HX1.out.below hB).data (HY1.out.below hB).data).mono fun e w' hh => by
              have hb2 := hB.trans (hh.2.mono hB.size)
              obtain ⟨a0, a1, a2, a3, a4, a5, a6, a7, a8, a9, a10, a11⟩ := HXA1.out.below hb2
              obtain ⟨e0, e1, e2, e3, e4, e5, e6, e7, e8, e9, e10, e11⟩ := HYA1.out.below hb2
              exact ⟨hh.1, a0, a1, a2, a3, a4, a5, a6, a7, a8, a9, a10, a11, e0, e1, e2, e3, e4, e5, e6, e7, e8, e9, e10, e11, hb2⟩)
          have hbw := (Below.refl wc.heap.size wc).drew
          have HOB := Lib.hid (Below.refl wc.heap.size wc)
          clear HLT HGT HRG
          go_upto_region 17 with fail
          go_cut [77] from 55 to 77 (fun u w5 => u = .bool (othB x y) ∧ Hid (Below wc.heap.size wc w5))
          case first =>
            clear HEQ HSM
            cases hs : sameB x y with
            | false =>
              have HO3 := Lib.hid (othB_f hs)
              have HS := HS0
              rw [hs] at HS
              clear hs HS0
              refine wp_region_held_drew (S := fun w' => w'.cell? ⟨b1, o1 + i * 12, none⟩ = some (.string x.path) ∧ w'.cell? ⟨b1, o1 + i * 12 + 1, none⟩ = some (.int .i64 x.kind) ∧ w'.cell? ⟨b1, o1 + i * 12 + 2, none⟩ = some (.int .i64 x.same) ∧ w'.cell? ⟨b1, o1 + i * 12 + 3, none⟩ = some (.string x.target) ∧ w'.cell? ⟨b1, o1 + i * 12 + 4, none⟩ = some (.int .i64 x.mt.mode) ∧ w'.cell? ⟨b1, o1 + i * 12 + 5, none⟩ = some (.int .i64 x.mt.uid) ∧ w'.cell? ⟨b1, o1 + i * 12 + 6, none⟩ = some (.int .i64 x.mt.gid) ∧ w'.cell? ⟨b1, o1 + i * 12 + 7, none⟩ = some (.string x.mt.user) ∧ w'.cell? ⟨b1, o1 + i * 12 + 8, none⟩ = some (.string x.mt.group) ∧ w'.cell? ⟨b1, o1 + i * 12 + 9, none⟩ = some (.int .i64 x.mt.second) ∧ w'.cell? ⟨b1, o1 + i * 12 + 10, none⟩ = some (.int .i64 x.mt.nano) ∧ w'.cell? ⟨b1, o1 + i * 12 + 11, none⟩ = some (.slice x.da x.data.length x.dcap) ∧ w'.cell? ⟨b2, o2 + k * 12, none⟩ = some (.string y.path) ∧ w'.cell? ⟨b2, o2 + k * 12 + 1, none⟩ = some (.int .i64 y.kind) ∧ w'.cell? ⟨b2, o2 + k * 12 + 2, none⟩ = some (.int .i64 y.same) ∧ w'.cell? ⟨b2, o2 + k * 12 + 3, none⟩ = some (.string y.target) ∧ w'.cell? ⟨b2, o2 + k * 12 + 4, none⟩ = some (.int .i64 y.mt.mode) ∧ w'.cell? ⟨b2, o2 + k * 12 + 5, none⟩ = some (.int .i64 y.mt.uid) ∧ w'.cell? ⟨b2, o2 + k * 12 + 6, none⟩ = some (.int .i64 y.mt.gid) ∧ w'.cell? ⟨b2, o2 + k * 12 + 7, none⟩ = some (.string y.mt.user) ∧ w'.cell? ⟨b2, o2 + k * 12 + 8, none⟩ = some (.string y.mt.group) ∧ w'.cell? ⟨b2, o2 + k * 12 + 9, none⟩ = some (.int .i64 y.mt.second) ∧ w'.cell? ⟨b2, o2 + k * 12 + 10, none⟩ = some (.int .i64 y.mt.nano) ∧ w'.cell? ⟨b2, o2 + k * 12 + 11, none⟩ = some (.slice y.da y.data.length y.dcap) ∧ Below wc.heap.size wc w') (by kernel_rfl) (by go_keep) (fun hHeld => ?_)
              refine wpAnyH_take (i := 0) (v := _) rfl (by kernel_rfl) (by kernel_rfl) (by kernel_rfl) (fun _ _ _ h => h) (Or.inl ⟨by rfl, fun w5 hSw => (by (try dsimp only at hSw); go_simp; try with_reducible rfl)⟩) hHeld ?_
              try simp only [List.getElem_toArray, List.getElem_cons_succ, List.getElem_cons_zero, Act.put, List.setIfInBounds_toArray, List.set_cons_zero, List.set_cons_succ]
              refine wpAnyH_take (i := 1) (v := _) rfl (by kernel_rfl) (by kernel_rfl) (by kernel_rfl) (fun _ _ _ h => h) (Or.inl ⟨by rfl, fun w5 hSw => (by (try dsimp only at hSw); go_simp; try with_reducible rfl)⟩) hHeld ?_
              try simp only [List.getElem_toArray, List.getElem_cons_succ, List.getElem_cons_zero, Act.put, List.setIfInBounds_toArray, List.set_cons_zero, List.set_cons_succ]
              refine wpAnyH_take (i := 2) (v := _) rfl (by kernel_rfl) (by kernel_rfl) (by kernel_rfl) (fun _ _ _ h => h) (Or.inl ⟨by rfl, fun w5 hSw => (by (try dsimp only at hSw); go_simp; try with_reducible rfl)⟩) hHeld ?_
              try simp only [List.getElem_toArray, List.getElem_cons_succ, List.getElem_cons_zero, Act.put, List.setIfInBounds_toArray, List.set_cons_zero, List.set_cons_succ]
              refine wpAnyH_take (i := 3) (v := _) rfl (by kernel_rfl) (by kernel_rfl) (by kernel_rfl) (fun _ _ _ h => h) (Or.inl ⟨by rfl, fun w5 hSw => (by (try dsimp only at hSw); go_simp; try with_reducible rfl)⟩) hHeld ?_
              try simp only [List.getElem_toArray, List.getElem_cons_succ, List.getElem_cons_zero, Act.put, List.setIfInBounds_toArray, List.set_cons_zero, List.set_cons_succ]
              refine wpAnyH_take (i := 4) (v := _) rfl (by kernel_rfl) (by kernel_rfl) (by kernel_rfl) (fun _ _ _ h => h) (Or.inl ⟨by rfl, fun w5 hSw => (by (try dsimp only at hSw); go_simp; try with_reducible rfl)⟩) hHeld ?_
              try simp only [List.getElem_toArray, List.getElem_cons_succ, List.getElem_cons_zero, Act.put, List.setIfInBounds_toArray, List.set_cons_zero, List.set_cons_succ]
              refine wpAnyH_take (i := 5) (v := _) rfl (by kernel_rfl) (by kernel_rfl) (by kernel_rfl) (fun _ _ _ h => h) (Or.inl ⟨by rfl, fun w5 hSw => (by (try dsimp only at hSw); go_simp; try with_reducible rfl)⟩) hHeld ?_
              try simp only [List.getElem_toArray, List.getElem_cons_succ, List.getElem_cons_zero, Act.put, List.setIfInBounds_toArray, List.set_cons_zero, List.set_cons_succ]
              refine wpAnyH_take (i := 6) (v := _) rfl (by kernel_rfl) (by kernel_rfl) (by kernel_rfl) (fun _ _ _ h => h) (Or.inl ⟨by rfl, fun w5 hSw => (by (try dsimp only at hSw); go_simp; try with_reducible rfl)⟩) hHeld ?_
              try simp only [List.getElem_toArray, List.getElem_cons_succ, List.getElem_cons_zero, Act.put, List.setIfInBounds_toArray, List.set_cons_zero, List.set_cons_succ]
              refine wpAnyH_take (i := 7) (v := _) rfl (by kernel_rfl) (by kernel_rfl) (by kernel_rfl) (fun _ _ _ h => h) (Or.inl ⟨by rfl, fun w5 hSw => (by (try dsimp only at hSw); go_simp; try with_reducible rfl)⟩) hHeld ?_
              try simp only [List.getElem_toArray, List.getElem_cons_succ, List.getElem_cons_zero, Act.put, List.setIfInBounds_toArray, List.set_cons_zero, List.set_cons_succ]
              refine wpAnyH_ready (rs := [8]) (by kernel_rfl) (by simp) ?_
              refine AllReadyH.cons rfl (fun K5 hK5 => ?_) AllReadyH.nil
              rw [if_pos (by rfl)]
              go_wp2_with (go_at_call 32; refine (HS.out _ ?_).mono ?_; (simp [*]); rintro e w3 ⟨rfl, r0, r1, r2, r3, r4, r5, r6, r7, r8, r9, r10, r11, r12, r13, r14, r15, r16, r17, r18, r19, r20, r21, r22, r23, hb3⟩)
              refine hK5.out _ _ (by go_keep) (fun hHeld => ?_)
              clear hK5 K5
              try simp only [List.getElem_toArray, List.getElem_cons_succ, List.getElem_cons_zero, Act.put, List.setIfInBounds_toArray, List.set_cons_zero, List.set_cons_succ]
              refine wpAnyH_take (i := 9) (v := _) rfl (by kernel_rfl) (by kernel_rfl) (by kernel_rfl) (fun _ _ _ h => h) (Or.inl ⟨by rfl, fun w5 hSw => (by (try dsimp only at hSw); go_simp; try with_reducible rfl)⟩) hHeld ?_
              try simp only [List.getElem_toArray, List.getElem_cons_succ, List.getElem_cons_zero, Act.put, List.setIfInBounds_toArray, List.set_cons_zero, List.set_cons_succ]
              refine wpAnyH_take (i := 10) (v := _) rfl (by kernel_rfl) (by kernel_rfl) (by kernel_rfl) (fun _ _ _ h => h) (Or.inl ⟨by rfl, fun w5 hSw => (by (try dsimp only at hSw); go_simp; try with_reducible rfl)⟩) hHeld ?_
              try simp only [List.getElem_toArray, List.getElem_cons_succ, List.getElem_cons_zero, Act.put, List.setIfInBounds_toArray, List.set_cons_zero, List.set_cons_succ]
              refine wpAnyH_take (i := 11) (v := undef) rfl (by kernel_rfl) (by kernel_rfl) (by kernel_rfl) (fun _ _ _ h => h) (Or.inr ⟨by rfl, rfl⟩) hHeld ?_
              try simp only [List.getElem_toArray, List.getElem_cons_succ, List.getElem_cons_zero, Act.put, List.setIfInBounds_toArray, List.set_cons_zero, List.set_cons_succ]
              refine wpAnyH_take (i := 12) (v := undef) rfl (by kernel_rfl) (by kernel_rfl) (by kernel_rfl) (fun _ _ _ h => h) (Or.inr ⟨by rfl, rfl⟩) hHeld ?_
              try simp only [List.getElem_toArray, List.getElem_cons_succ, List.getElem_cons_zero, Act.put, List.setIfInBounds_toArray, List.set_cons_zero, List.set_cons_succ]
              refine wpAnyH_take (i := 13) (v := undef) rfl (by kernel_rfl) (by kernel_rfl) (by kernel_rfl) (fun _ _ _ h => h) (Or.inr ⟨by rfl, rfl⟩) hHeld ?_
              try simp only [List.getElem_toArray, List.getElem_cons_succ, List.getElem_cons_zero, Act.put, List.setIfInBounds_toArray, List.set_cons_zero, List.set_cons_succ]
              refine wpAnyH_take (i := 14) (v := undef) rfl (by kernel_rfl) (by kernel_rfl) (by kernel_rfl) (fun _ _ _ h => h) (Or.inr ⟨by rfl, rfl⟩) hHeld ?_
              try simp only [List.getElem_toArray, List.getElem_cons_succ, List.getElem_cons_zero, Act.put, List.setIfInBounds_toArray, List.set_cons_zero, List.set_cons_succ]
              refine wpAnyH_take (i := 15) (v := undef) rfl (by kernel_rfl) (by kernel_rfl) (by kernel_rfl) (fun _ _ _ h => h) (Or.inr ⟨by rfl, rfl⟩) hHeld ?_
              try simp only [List.getElem_toArray, List.getElem_cons_succ, List.getElem_cons_zero, Act.put, List.setIfInBounds_toArray, List.set_cons_zero, List.set_cons_succ]
              refine wpAnyH_take (i := 16) (v := undef) rfl (by kernel_rfl) (by kernel_rfl) (by kernel_rfl) (fun _ _ _ h => h) (Or.inr ⟨by rfl, rfl⟩) hHeld ?_
              try simp only [List.getElem_toArray, List.getElem_cons_succ, List.getElem_cons_zero, Act.put, List.setIfInBounds_toArray, List.set_cons_zero, List.set_cons_succ]
              refine wpAnyH_take (i := 17) (v := undef) rfl (by kernel_rfl) (by kernel_rfl) (by kernel_rfl) (fun _ _ _ h => h) (Or.inr ⟨by rfl, rfl⟩) hHeld ?_
              try simp only [List.getElem_toArray, List.getElem_cons_succ, List.getElem_cons_zero, Act.put, List.setIfInBounds_toArray, List.set_cons_zero, List.set_cons_succ]
              refine wpAnyH_take (i := 18) (v := undef) rfl (by kernel_rfl) (by kernel_rfl) (by kernel_rfl) (fun _ _ _ h => h) (Or.inr ⟨by rfl, rfl⟩) hHeld ?_
              try simp only [List.getElem_toArray, List.getElem_cons_succ, List.getElem_cons_zero, Act.put, List.setIfInBounds_toArray, List.set_cons_zero, List.set_cons_succ]
              refine wpAnyH_take (i := 19) (v := undef) rfl (by kernel_rfl) (by kernel_rfl) (by kernel_rfl) (fun _ _ _ h => h) (Or.inr ⟨by rfl, rfl⟩) hHeld ?_
              try simp only [List.getElem_toArray, List.getElem_cons_succ, List.getElem_cons_zero, Act.put, List.setIfInBounds_toArray, List.set_cons_zero, List.set_cons_succ]
              refine wpAnyH_take (i := 20) (v := undef) rfl (by kernel_rfl) (by kernel_rfl) (by kernel_rfl) (fun _ _ _ h => h) (Or.inr ⟨by rfl, rfl⟩) hHeld ?_
              try simp only [List.getElem_toArray, List.getElem_cons_succ, List.getElem_cons_zero, Act.put, List.setIfInBounds_toArray, List.set_cons_zero, List.set_cons_succ]
              refine wpAnyH_take (i := 21) (v := undef) rfl (by kernel_rfl) (by kernel_rfl) (by kernel_rfl) (fun _ _ _ h => h) (Or.inr ⟨by rfl, rfl⟩) hHeld ?_
              try simp only [List.getElem_toArray, List.getElem_cons_succ, List.getElem_cons_zero, Act.put, List.setIfInBounds_toArray, List.set_cons_zero, List.set_cons_succ]
              refine wpAnyH_take (i := 22) (v := _) rfl (by kernel_rfl) (by kernel_rfl) (by kernel_rfl) (fun _ _ _ h => h) (Or.inl ⟨by rfl, fun w5 hSw => (by (try dsimp only at hSw); go_simp; try with_reducible rfl)⟩) hHeld ?_
              try simp only [List.getElem_toArray, List.getElem_cons_succ, List.getElem_cons_zero, Act.put, List.setIfInBounds_toArray, List.set_cons_zero, List.set_cons_succ]
              refine wpAnyH_done (by kernel_rfl) ?_ _
              go_wp2_with fail
              go_meet
              case rel => exact ⟨by rw [HO3.out], Lib.hid hb3⟩
            | true =>
              have HS := HS0
              rw [hs] at HS
              by_cases hn : x.same = y.same
              · have HO3 := Lib.hid (othB_s hs hn)
                have hq : (x.same != y.same) = false := by rw [hn]; simp
                clear hs HS0 hn
                go_region_held3 (fun w' => w'.cell? ⟨b1, o1 + i * 12, none⟩ = some (.string x.path) ∧ w'.cell? ⟨b1, o1 + i * 12 + 1, none⟩ = some (.int .i64 x.kind) ∧ w'.cell? ⟨b1, o1 + i * 12 + 2, none⟩ = some (.int .i64 x.same) ∧ w'.cell? ⟨b1, o1 + i * 12 + 3, none⟩ = some (.string x.target) ∧ w'.cell? ⟨b1, o1 + i * 12 + 4, none⟩ = some (.int .i64 x.mt.mode) ∧ w'.cell? ⟨b1, o1 + i * 12 + 5, none⟩ = some (.int .i64 x.mt.uid) ∧ w'.cell? ⟨b1, o1 + i * 12 + 6, none⟩ = some (.int .i64 x.mt.gid) ∧ w'.cell? ⟨b1, o1 + i * 12 + 7, none⟩ = some (.string x.mt.user) ∧ w'.cell? ⟨b1, o1 + i * 12 + 8, none⟩ = some (.string x.mt.group) ∧ w'.cell? ⟨b1, o1 + i * 12 + 9, none⟩ = some (.int .i64 x.mt.second) ∧ w'.cell? ⟨b1, o1 + i * 12 + 10, none⟩ = some (.int .i64 x.mt.nano) ∧ w'.cell? ⟨b1, o1 + i * 12 + 11, none⟩ = some (.slice x.da x.data.length x.dcap) ∧ w'.cell? ⟨b2, o2 + k * 12, none⟩ = some (.string y.path) ∧ w'.cell? ⟨b2, o2 + k * 12 + 1, none⟩ = some (.int .i64 y.kind) ∧ w'.cell? ⟨b2, o2 + k * 12 + 2, none⟩ = some (.int .i64 y.same) ∧ w'.cell? ⟨b2, o2 + k * 12 + 3, none⟩ = some (.string y.target) ∧ w'.cell? ⟨b2, o2 + k * 12 + 4, none⟩ = some (.int .i64 y.mt.mode) ∧ w'.cell? ⟨b2, o2 + k * 12 + 5, none⟩ = some (.int .i64 y.mt.uid) ∧ w'.cell? ⟨b2, o2 + k * 12 + 6, none⟩ = some (.int .i64 y.mt.gid) ∧ w'.cell? ⟨b2, o2 + k * 12 + 7, none⟩ = some (.string y.mt.user) ∧ w'.cell? ⟨b2, o2 + k * 12 + 8, none⟩ = some (.string y.mt.group) ∧ w'.cell? ⟨b2, o2 + k * 12 + 9, none⟩ = some (.int .i64 y.mt.second) ∧ w'.cell? ⟨b2, o2 + k * 12 + 10, none⟩ = some (.int .i64 y.mt.nano) ∧ w'.cell? ⟨b2, o2 + k * 12 + 11, none⟩ = some (.slice y.da y.data.length y.dcap) ∧ Below wc.heap.size wc w') (go_keep)
                  (first | (go_at_call 32; refine (HS.out _ ?_).mono ?_; (simp [*]); rintro e w3 ⟨rfl, r0, r1, r2, r3, r4, r5, r6, r7, r8, r9, r10, r11, r12, r13, r14, r15, r16, r17, r18, r19, r20, r21, r22, r23, hb3⟩))
                go_wp2_with fail
                go_meet
                case rel => exact ⟨by rw [HO3.out], Lib.hid hb3⟩
              · have HO3 := Lib.hid (othB_n hn)
                have hq : (x.same != y.same) = true := by rw [bne_iff_ne]; exact hn
                clear hs HS0 hn
                go_region_held3 (fun w' => w'.cell? ⟨b1, o1 + i * 12, none⟩ = some (.string x.path) ∧ w'.cell? ⟨b1, o1 + i * 12 + 1, none⟩ = some (.int .i64 x.kind) ∧ w'.cell? ⟨b1, o1 + i * 12 + 2, none⟩ = some (.int .i64 x.same) ∧ w'.cell? ⟨b1, o1 + i * 12 + 3, none⟩ = some (.string x.target) ∧ w'.cell? ⟨b1, o1 + i * 12 + 4, none⟩ = some (.int .i64 x.mt.mode) ∧ w'.cell? ⟨b1, o1 + i * 12 + 5, none⟩ = some (.int .i64 x.mt.uid) ∧ w'.cell? ⟨b1, o1 + i * 12 + 6, none⟩ = some (.int .i64 x.mt.gid) ∧ w'.cell? ⟨b1, o1 + i * 12 + 7, none⟩ = some (.string x.mt.user) ∧ w'.cell? ⟨b1, o1 + i * 12 + 8, none⟩ = some (.string x.mt.group) ∧ w'.cell? ⟨b1, o1 + i * 12 + 9, none⟩ = some (.int .i64 x.mt.second) ∧ w'.cell? ⟨b1, o1 + i * 12 + 10, none⟩ = some (.int .i64 x.mt.nano) ∧ w'.cell? ⟨b1, o1 + i * 12 + 11, none⟩ = some (.slice x.da x.data.length x.dcap) ∧ w'.cell? ⟨b2, o2 + k * 12, none⟩ = some (.string y.path) ∧ w'.cell? ⟨b2, o2 + k * 12 + 1, none⟩ = some (.int .i64 y.kind) ∧ w'.cell? ⟨b2, o2 + k * 12 + 2, none⟩ = some (.int .i64 y.same) ∧ w'.cell? ⟨b2, o2 + k * 12 + 3, none⟩ = some (.string y.target) ∧ w'.cell? ⟨b2, o2 + k * 12 + 4, none⟩ = some (.int .i64 y.mt.mode) ∧ w'.cell? ⟨b2, o2 + k * 12 + 5, none⟩ = some (.int .i64 y.mt.uid) ∧ w'.cell? ⟨b2, o2 + k * 12 + 6, none⟩ = some (.int .i64 y.mt.gid) ∧ w'.cell? ⟨b2, o2 + k * 12 + 7, none⟩ = some (.string y.mt.user) ∧ w'.cell? ⟨b2, o2 + k * 12 + 8, none⟩ = some (.string y.mt.group) ∧ w'.cell? ⟨b2, o2 + k * 12 + 9, none⟩ = some (.int .i64 y.mt.second) ∧ w'.cell? ⟨b2, o2 + k * 12 + 10, none⟩ = some (.int .i64 y.mt.nano) ∧ w'.cell? ⟨b2, o2 + k * 12 + 11, none⟩ = some (.slice y.da y.data.length y.dcap) ∧ Below wc.heap.size wc w') (go_keep)
                  (first | (go_at_call 32; refine (HS.out _ ?_).mono ?_; (simp [*]); rintro e w3 ⟨rfl, r0, r1, r2, r3, r4, r5, r6, r7, r8, r9, r10, r11, r12, r13, r14, r15, r16, r17, r18, r19, r20, r21, r22, r23, hb3⟩))
                go_wp2_with fail
                go_meet
                case rel => exact ⟨by rw [HO3.out], Lib.hid hb3⟩
          case rest =>
            obtain ⟨rfl, HB5⟩ := hcut
            clear HS0 hbw HOB
            have HO5 := Lib.hid (HO1.out.below HB5.out)
            have HY5 := Lib.hid (HY1.out.below HB5.out)
            have HYA5 := Lib.hid (HYA1.out.below HB5.out)
            clear h0 h1 h2 h3 h4 h5 h6 h7 h8 h9 h10 h11 g0 g1 g2 g3 g4 g5 g6 g7 g8 g9 g10 g11
            cases ho : othB x y with
            | true =>
              have HNE := Lib.hid (othB_iff ho)
              obtain ⟨g0, g1, g2, g3, g4, g5, g6, g7, g8, g9, g10, g11⟩ := HYA5.out
              have HNC := Lib.hid (Note_any bo 3 y w _ vo o HO5.out (by unfold i64; omega) HY5.out hyd (by omega))
              clear ho
              go_wp2_with (go_at_call 30; refine HNC.out.mono ?_; rintro e w' ⟨rfl, v', n, hn, hO'⟩; have HN' := Lib.hid hn; have HO' := Lib.hid hO'; clear hn hO')
              go_roundw
              case rel => exact ⟨i + 1, k + 1, _, _, by omega, by omega, by go_num, by go_num, Lib.hid (HEQ.out (by trivial) HNE.out n HN'.out), HO'⟩
              case measure => simp [intOf]; omega
            | false =>
              have HNE := Lib.hid (othB_no ho)
              clear ho
              go_wp2
              go_roundw
              case rel => exact ⟨i + 1, k + 1, _, _, by omega, by omega, by go_num, by go_num, Lib.hid (HSM.out (by trivial) HNE.out), HO5⟩
              case measure => simp [intOf]; omega
        · have HNC := Lib.hid (Note_any bo 2 y w wc vo o HO1.out (by unfold i64; omega) HY1.out hyd (by omega))
          clear HLT HEQ HSM HRG
          go_wp2_with (go_at_call 30; refine HNC.out.mono ?_; rintro e w' ⟨rfl, v', n, hn, hO'⟩; have HN' := Lib.hid hn; have HO' := Lib.hid hO'; clear hn hO')
          go_roundw
          case rel => exact ⟨i, k + 1, _, _, by omega, by omega, rfl, by go_num, Lib.hid (HGT.out (by trivial) n HN'.out), HO'⟩
          case measure => simp [intOf]; omega
      · obtain rfl : k = b.length := by omega
        have HNX := Lib.hid (fun n hn => HD.out.left (n := n) hia hn)
        generalize nk a i = x at *
        have HNC := Lib.hid (Note_any bo 1 x w wr vo o HO.out (by unfold i64; omega) HX.out hxd (by omega))
        go_wp2_with (go_at_call 30; refine HNC.out.mono ?_; rintro e w' ⟨rfl, v', n, hn, hO'⟩; have HN' := Lib.hid hn; have HO' := Lib.hid hO'; clear hn hO')
        go_roundw
        case rel => exact ⟨i + 1, _, _, _, by omega, Nat.le_refl _, by go_num, rfl, Lib.hid (HNX.out n HN'.out), HO'⟩
        case measure => simp [intOf]; omega
    · obtain rfl : i = a.length := by omega
      by_cases hkb : k < b.length
      · obtain ⟨b2, o2, rfl, hc2, hk2⟩ := HB.out (by omega)
        obtain ⟨g0, g1, g2, g3, g4, g5, g6, g7, g8, g9, g10, g11⟩ := (hc2.below HWB.out) k hkb
        have HY := Lib.hid ((hk2 k hkb).below HWB.out)
        have hyd := HDB.out k hkb
        have HNX := Lib.hid (fun n hn => HD.out.right (n := n) hkb hn)
        clear hc2 hk2
        generalize nk b k = y at *
        have HNC := Lib.hid (Note_any bo 2 y w wr vo o HO.out (by unfold i64; omega) HY.out hyd (by omega))
        go_wp2_with (go_at_call 30; refine HNC.out.mono ?_; rintro e w' ⟨rfl, v', n, hn, hO'⟩; have HN' := Lib.hid hn; have HO' := Lib.hid hO'; clear hn hO')
        go_roundw
        case rel => exact ⟨a.length, k + 1, _, _, Nat.le_refl _, by omega, rfl, by go_num, Lib.hid (HNX.out n HN'.out), HO'⟩
        case measure => simp [intOf]; omega
      · obtain rfl : k = b.length := by omega
        have c0 := HO.out.cell
        have HDN := Lib.hid HD.out.done
        go_wp2
        go_ret2
        exact ⟨_, o, rfl, HO.out.own.mono (Nat.le_trans HO.out.low (Nat.le_succ _)), HDN.out, HO.out.bel⟩
set_option maxRecDepth 100000 in
set_option maxHeartbeats 1000000 in
theorem DiffL_any (v1 v2 : Value) (a b : List Nod) (w : World) (hM : MaxOk w) (ha : SliceC maxLen 12 (NodC maxLen) w [v1] a) (hb : SliceC maxLen 12 (NodC maxLen) w [v2] b) :
    Calls Tryd.prog 9 #[v1, v2] w (RetCE tChg w (diffOf a b)) := by
  by_cases hEA : treeFault a = 0
  · by_cases hEB : treeFault b = 0
    · rw [diffOf_ok hEA hEB]
      exact DiffL_ok v1 v2 a b w hM ha hb hEA hEB
    · rw [diffOf_b hEA hEB]
      have HM := Lib.hid hM
      have HSB := Lib.hid hb
      have HCA := Lib.hid (TreeCheck_any v1 a w hM ha)
      rw [hEA] at HCA
      have HCB := Lib.hid (fun w hM h => TreeCheck_any v2 b w hM h)
      generalize treeFault b = q at *
      have hq : (q == 0) = false := by rw [beq_eq_false_iff_ne]; exact hEB
      clear hM ha hb hEA hEB
      go_enter Tryd.func9, Tryd.ntmps9
      go_wp2_with fail
      refine HCA.out.mono ?_
      rintro e w1 ⟨rfl, hb⟩
      have HB1 := Lib.hid hb
      clear hb
      go_wp2_with fail
      refine (HCB.out _ (HM.out.below HB1.out) (nods_below HSB.out HB1.out)).mono ?_
      rintro e w2 ⟨rfl, hb⟩
      have HB2 := Lib.hid (HB1.out.trans (hb.mono HB1.out.size))
      clear hb
      go_wp2
      go_ret2
      exact ⟨_, [], rfl, OwnChgs.nil _ _ _, rfl, HB2.out⟩
  · rw [diffOf_a hEA]
    have HCA := Lib.hid (TreeCheck_any v1 a w hM ha)
    generalize treeFault a = q at *
    have hq : (q == 0) = false := by rw [beq_eq_false_iff_ne]; exact hEA
    clear hM ha hb hEA
    go_enter Tryd.func9, Tryd.ntmps9
    go_wp2_with fail
    refine HCA.out.mono ?_
    rintro e w1 ⟨rfl, hb⟩
    have HB1 := Lib.hid hb
    clear hb
    go_wp2
    go_ret2
    exact ⟨_, [], rfl, OwnChgs.nil _ _ _, rfl, HB1.out⟩
end Go.Proofs.YtaffgndickdbiaaDoor
