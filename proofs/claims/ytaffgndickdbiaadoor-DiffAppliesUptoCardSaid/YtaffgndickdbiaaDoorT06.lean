/-
  Texts: NodFault, TreeFault, NodRight, Compare.
-/
import Derived.Test.YtaffgndickdbiaaDoorT05
import Derived.StillTailTactics
import Derived.Deep.CutRange
set_option linter.unusedVariables false
set_option linter.unusedSimpArgs false
set_option linter.unusedSectionVars false
namespace Go.Proofs.YtaffgndickdbiaaDoor
open Go.Creel Go.RowKit
set_option maxRecDepth 100000 in
set_option maxHeartbeats 40000000 in
theorem NodeFault_any {N : Nat} (x : Nod) (w : World) (hp : x.path.size ≤ N) (ht : x.target.size ≤ N) (hm : x.mt.Ok N) (hd : x.data.length ≤ maxLen) (hk : i64 x.kind) (hs : i64 x.same) (hN : N ≤ maxLen) :
    Calls Tryd.prog 74 #[x.val] w fun e w' => e = .returned (.int .i64 (nodFault x)) ∧ Below w.heap.size w w' := by
  obtain ⟨path, kind, same, target, ⟨mode, uid, gid, user, group, second, nano⟩, da, dcap, data⟩ := x
  unfold maxLen at hd
  have HPZ := Lib.hid (Nat.le_trans hp hN)
  have HTZ := Lib.hid (Nat.le_trans ht hN)
  have htz := Nat.le_trans ht hN
  unfold maxLen at htz
  have HMO := Lib.hid hm
  have hk2 := hk
  have hs2 := hs
  unfold i64 at hk2 hs2
  have HF : Hid (∀ c, nodFaultN (pathFault path) (metaFault ⟨mode, uid, gid, user, group, second, nano⟩) kind same data.length target.size (hasN target) = c → nodFault ⟨path, kind, same, target, ⟨mode, uid, gid, user, group, second, nano⟩, da, dcap, data⟩ = c) := Lib.hid fun c h => h
  generalize hR : nodFault _ = R at *
  clear hp ht hm hk hs hR
  have hix0 : Hid (hasB target 0 = true ∨ hasB target 0 = false) := Lib.hid (by cases hasB target 0 <;> simp)
  show Calls Tryd.prog 74 #[.agg #[.string path, .int .i64 kind, .int .i64 same, .string target, .int .i64 mode, .int .i64 uid, .int .i64 gid, .string user, .string group, .int .i64 second, .int .i64 nano, .slice da data.length dcap]] w _
  go_enter Tryd.func74, Tryd.ntmps74
  go_wp2_with fail
  refine (PathFault_any path _ HPZ.out).mono ?_
  rintro e w1 ⟨rfl, hb⟩
  have HB1 := Lib.hid (((Below.refl _ _).alloc (Nat.le_refl _) _).trans (hb.mono (by simp)))
  obtain ⟨hc1, _⟩ := bcell hb
  have HB := Lib.hid hb
  clear hb
  by_cases hp0 : pathFault path = 0
  · rw [hp0]
    have HP0 := Lib.hid hp0
    clear hp0
    go_wp2_with fail
    refine (MetaFault_any ⟨mode, uid, gid, user, group, second, nano⟩ _ HMO.out hN).mono ?_
    rintro e w2 ⟨rfl, hb⟩
    have HB2 := Lib.hid (HB1.out.trans (hb.mono HB1.out.size))
    have hb2 := HB.out.trans (hb.mono HB.out.size)
    obtain ⟨hc2, _⟩ := bcell hb2
    have HBB2 := Lib.hid hb2
    clear hb hb2 hc1
    by_cases hm0 : metaFault ⟨mode, uid, gid, user, group, second, nano⟩ = 0
    · rw [hm0]
      have HM0 := Lib.hid hm0
      clear hm0
      rw [HP0.out, HM0.out] at HF
      by_cases ht0 : target.size = 0
      · have he := empty_t ht0
        have hh := has_empty ht0
        all_goals
          first | rw [hasN_t hh] at HF | rw [hasN_f hh] at HF
          have HH := Lib.hid hh
          clear hh
          go_wp2_with (go_at_call 92; refine (has_any target 0 0 rfl _ HTZ.out).mono ?_; rintro e w' ⟨rfl, rfl⟩; rw [HH.out])
          all_goals
            first
              | (exfalso; (try simp only [← List.length_eq_zero_iff, beq_iff_eq, beq_eq_false_iff_ne, bne_iff_ne, bne_eq_false_iff_eq, ne_eq] at *); omega)
              | (go_ret; exact ⟨ret_i (HF.out _ (by (try simp only [← List.length_eq_zero_iff, beq_iff_eq, beq_eq_false_iff_ne, bne_iff_ne, bne_eq_false_iff_eq, ne_eq] at *); unfold nodFaultN; repeat (first | rw [if_pos (by omega)] | rw [if_neg (by omega)] | rw [if_pos rfl] | rw [if_neg (by decide)]))), HB2.out⟩)
      · have he := empty_f ht0
        rcases hix0.out with hh | hh
        all_goals
          first | rw [hasN_t hh] at HF | rw [hasN_f hh] at HF
          have HH := Lib.hid hh
          clear hh
          go_wp2_with (go_at_call 92; refine (has_any target 0 0 rfl _ HTZ.out).mono ?_; rintro e w' ⟨rfl, rfl⟩; rw [HH.out])
          all_goals
            first
              | (exfalso; (try simp only [← List.length_eq_zero_iff, beq_iff_eq, beq_eq_false_iff_ne, bne_iff_ne, bne_eq_false_iff_eq, ne_eq] at *); omega)
              | (go_ret; exact ⟨ret_i (HF.out _ (by (try simp only [← List.length_eq_zero_iff, beq_iff_eq, beq_eq_false_iff_ne, bne_iff_ne, bne_eq_false_iff_eq, ne_eq] at *); unfold nodFaultN; repeat (first | rw [if_pos (by omega)] | rw [if_neg (by omega)] | rw [if_pos rfl] | rw [if_neg (by decide)]))), HB2.out⟩)
    · have HRR := Lib.hid (HF.out _ (show _ = metaFault ⟨mode, uid, gid, user, group, second, nano⟩ by unfold nodFaultN; rw [if_neg (by rw [HP0.out]; simp), if_pos hm0]))
      have hne := hm0
      generalize metaFault ⟨mode, uid, gid, user, group, second, nano⟩ = m at *
      go_wp2
      go_ret
      exact ⟨ret_i HRR.out, HB2.out⟩
  · have HRR := Lib.hid (HF.out _ (show _ = pathFault path by unfold nodFaultN; rw [if_pos hp0]))
    have hne := hp0
    generalize pathFault path = p at *
    go_wp2
    go_ret
    exact ⟨ret_i HRR.out, HB1.out⟩
end Go.Proofs.YtaffgndickdbiaaDoor
namespace Go.Creel
open Go.RowKit
theorem nodAt_box (w : World) (x : Nod) (t : TypeId) : NodAt (w.alloc (.cells #[.string x.path, .int .i64 x.kind, .int .i64 x.same, .string x.target, .int .i64 x.mt.mode, .int .i64 x.mt.uid, .int .i64 x.mt.gid, .string x.mt.user, .string x.mt.group, .int .i64 x.mt.second, .int .i64 x.mt.nano, .slice x.da x.data.length x.dcap] t)) w.heap.size 0 x := by
  refine ⟨?_, ?_, ?_, ?_, ?_, ?_, ?_, ?_, ?_, ?_, ?_, ?_⟩ <;> simp [World.cell?_alloc_new]
theorem NodAt.zero {w : World} {b : Nat} {x : Nod} (h : NodAt w b 0 x) : w.cell? ⟨b, 0, none⟩ = some (.string x.path) ∧ w.cell? ⟨b, 1, none⟩ = some (.int .i64 x.kind) ∧ w.cell? ⟨b, 2, none⟩ = some (.int .i64 x.same) ∧ w.cell? ⟨b, 3, none⟩ = some (.string x.target) ∧ w.cell? ⟨b, 4, none⟩ = some (.int .i64 x.mt.mode) ∧ w.cell? ⟨b, 5, none⟩ = some (.int .i64 x.mt.uid) ∧ w.cell? ⟨b, 6, none⟩ = some (.int .i64 x.mt.gid) ∧ w.cell? ⟨b, 7, none⟩ = some (.string x.mt.user) ∧ w.cell? ⟨b, 8, none⟩ = some (.string x.mt.group) ∧ w.cell? ⟨b, 9, none⟩ = some (.int .i64 x.mt.second) ∧ w.cell? ⟨b, 10, none⟩ = some (.int .i64 x.mt.nano) ∧ w.cell? ⟨b, 11, none⟩ = some (.slice x.da x.data.length x.dcap) := h
def ordBadB (l : List Nod) (k : Nat) : Bool := decide (0 < k ∧ ¬ ordP (pathParts (nk l (k - 1)).path) (pathParts (nk l k).path) = -1)
theorem ordBad_f {l : List Nod} {k : Nat} (h : OrdOk l k) : ordBadB l k = false := decide_eq_false (fun e => e.2 (h e.1))
theorem ord_dec (l : List Nod) (q : Nat) : (ordP (pathParts (nk l q).path) (pathParts (nk l (q + 1)).path) != -1) = ordBadB l (q + 1) := by
  unfold ordBadB
  rw [Nat.add_sub_cancel]
  by_cases h : ordP (pathParts (nk l q).path) (pathParts (nk l (q + 1)).path) = -1
  · rw [h]; simp
  · rw [decide_eq_true ⟨by omega, h⟩, bne_iff_ne]; exact h
theorem ordBad_t {l : List Nod} {k : Nat} (h : ¬ OrdOk l k) : ordBadB l k = true := by
  refine decide_eq_true (Classical.byContradiction fun e => h fun h0 => Classical.byContradiction fun h1 => e ⟨h0, h1⟩)
open Classical in
noncomputable def upOkB (l : List Nod) (k : Nat) : Bool := decide (UpOk l k)
theorem upOk_t {l : List Nod} {k : Nat} (h : UpOk l k) : upOkB l k = true := by unfold upOkB; simp [h]
theorem upOk_f {l : List Nod} {k : Nat} (h : ¬ UpOk l k) : upOkB l k = false := by unfold upOkB; simp [h]
theorem stepF_upN {l : List Nod} {i : Nat} (h : nodFault (nk l i) = 0) (h1 : OrdOk l i) (h2 : ¬ UpOk l i) : stepF l i = 10 := by
  refine stepF_up h h1 (fun e => h2 fun h => absurd e h) (fun e => h2 fun _ => e)
noncomputable def badB (y x : Nod) : Bool := decide (y.same = x.same) && !likeB y x
theorem bad_t {y x : Nod} (h : badB y x = true) : y.same = x.same ∧ likeB y x = false := by unfold badB at h; simpa using h
theorem bad_f {y x : Nod} (h : badB y x = false) (he : y.same = x.same) : likeB y x = true := by unfold badB at h; simpa [he] using h
theorem ord_not {l : List Nod} {k : Nat} (h : ¬ OrdOk l k) : 0 < k ∧ ¬ ordP (pathParts (nk l (k - 1)).path) (pathParts (nk l k).path) = -1 := by
  unfold OrdOk at h
  by_cases h0 : 0 < k
  · exact ⟨h0, fun e => h fun _ => e⟩
  · exact absurd (fun e => absurd e h0) h
end Go.Creel
namespace Go.Proofs.YtaffgndickdbiaaDoor
open Go.Creel Go.RowKit
theorem nodF_call (x : Nod) (w : World) (h : x.Ok maxLen w) : Calls Tryd.prog 74 #[x.val] w fun e w' => e = .returned (.int .i64 (nodFault x)) ∧ Below w.heap.size w w' :=
  NodeFault_any x w h.path h.target h.mt (by obtain ⟨_, _, _, _, _, h, _⟩ := h.data; exact h) h.kind h.same (Nat.le_refl _)
set_option maxRecDepth 100000 in
set_option maxHeartbeats 4000000 in
theorem TreeFault_at (b off cap : Nat) (l : List Nod) (w : World) (hpos : 0 < l.length) (hle : l.length ≤ cap) (hm : cap ≤ maxLen) (hc : NodsAt w b off l) (ho : ∀ i, i < l.length → (nk l i).Ok maxLen w) :
    Calls Tryd.prog 33 #[.slice (some ⟨b, off, none⟩) l.length cap] w fun e w' => e = .returned (.int .i64 (treeFault l)) ∧ Below w.heap.size w w' := by
  have hm' := hm
  unfold maxLen at hm
  have HC := Lib.hid hc
  have HO := Lib.hid ho
  have HCAP := Lib.hid hm'
  clear hc ho hm'
  by_cases hmany : 40 < l.length
  · have HF := Lib.hid (treeFault_many hmany)
    go_enter Tryd.func33, Tryd.ntmps33
    go_wp2
    go_ret
    exact ⟨ret_i HF.out, Below.refl _ _⟩
  have hfew : l.length ≤ 40 := by omega
  clear hmany
  go_enter Tryd.func33, Tryd.ntmps33
  go_wp2
  go_loopw [3, 4, 5, 6, 7, 8, 9] (fun i _ _ _ _ _ _ wr => ∃ k : Nat, k ≤ l.length ∧ i = .int .i64 k ∧ Hid (∀ j, j < k → stepF l j = 0) ∧ Hid (Below w.heap.size w wr)) (fun i _ _ _ _ _ _ _ => l.length - (intOf i).toNat)
  case atStart => exact ⟨0, by omega, rfl, Lib.hid fun j hj => absurd hj (by omega), Lib.hid (Below.refl _ _)⟩
  case round =>
    obtain ⟨k, hk, rfl, HZ, HB⟩ := hrel
    by_cases hlt : k < l.length
    · obtain ⟨h0, h1, h2, h3, h4, h5, h6, h7, h8, h9, h10, h11⟩ := (HC.out.below HB.out) k hlt
      have HX := Lib.hid ((HO.out k hlt).below HB.out)
      have HAT := Lib.hid (fun e => treeFault_at (e := e) hfew hlt HZ.out)
      by_cases hA : nodFault (nk l k) = 0
      · have HA := Lib.hid hA
        clear hA
        go_wp2_with fail
        have HBX := Lib.hid (nodAt_box wr (nk l k) 60)
        refine (nodF_call _ _ (HX.out.below ((Below.refl _ _).alloc (Nat.le_refl _) _))).mono ?_
        rintro e w1 ⟨rfl, hb⟩
        have HB1 := Lib.hid ((HB.out.alloc HB.out.size _).trans (hb.mono (by simp; exact Nat.le_succ_of_le HB.out.size)))
        have HBX1 := Lib.hid (HBX.out.below hb)
        rw [HA.out]
        clear hb h0 h1 h2 h3 h4 h5 h6 h7 h8 h9 h10 h11
        generalize wr.heap.size = bx at *
        obtain ⟨g0, g1, g2, g3, g4, g5, g6, g7, g8, g9, g10, g11⟩ := HBX1.out.zero
        have HPZ := Lib.hid (fun (j : Nat) (hj : j ≤ k) => show (nk l j).path.size ≤ 1048576 from Nat.le_trans (nodFault_path (by
          rcases Nat.lt_or_ge j k with h | h
          · exact (stepF_zero (HZ.out j h)).1
          · rw [show j = k by omega]; exact HA.out)) (by decide))
        go_upto_region 10 with fail
        go_cut [41] from 13 to 105 (fun u wc => u = .bool (ordBadB l k) ∧ Hid (Below w1.heap.size w1 wc))
        case first =>
          by_cases hk0 : k = 0
          · subst hk0
            go_wp2
            go_quiet (fail)
            go_wp2_with fail
            go_meet
            case rel => exact ⟨rfl, Lib.hid (below_draws _ _ _)⟩
          · obtain ⟨q, rfl⟩ : ∃ q, k = q + 1 := ⟨k - 1, by omega⟩
            obtain ⟨p0, _⟩ := (HC.out.below HB1.out) q (by omega)
            have hwq : IntKind.i64.wrap (q : Int) = (q : Int) := by rw [IntKind.wrap_i64]; omega
            have hql : (q : Int) < (l.length : Int) := by omega
            go_wp2
            go_still_tail 11, (by kernel_rfl)
            go_wp2_with fail
            refine (PathOrder_any _ _ _ (HPZ.out q (by omega)) (HPZ.out (q + 1) (by omega))).mono ?_
            rintro e wc ⟨rfl, hb⟩
            have HBC := Lib.hid ((Below.refl w1.heap.size w1).drew.trans hb)
            clear hb
            go_wp2_with fail
            go_meet
            case rel => exact ⟨congrArg Value.bool (ord_dec _ _), HBC⟩
        case rest =>
          obtain ⟨rfl, HBC⟩ := hcut
          have HB2 := Lib.hid (HB1.out.trans (HBC.out.mono HB1.out.size))
          have HBX2 := Lib.hid (HBX1.out.below HBC.out)
          clear g0 g1 g2 g3 g4 g5 g6 g7 g8 g9 g10 g11
          obtain ⟨g0, g1, g2, g3, g4, g5, g6, g7, g8, g9, g10, g11⟩ := HBX2.out.zero
          by_cases hO : OrdOk l k
          · have HOK := Lib.hid hO
            rw [ordBad_f hO]
            clear hO
            go_wp2_with fail
            refine (PathSplit_any _ _ (Nat.le_trans (HPZ.out k (Nat.le_refl _)) (by decide))).mono ?_
            rintro e w2 ⟨rfl, hb⟩
            have HB3 := Lib.hid (HB2.out.trans (hb.mono HB2.out.size))
            have HBX3 := Lib.hid (HBX2.out.below hb)
            clear hb g0 g1 g2 g3 g4 g5 g6 g7 g8 g9 g10 g11
            obtain ⟨g0, g1, g2, g3, g4, g5, g6, g7, g8, g9, g10, g11⟩ := HBX3.out.zero
            have htk : (l.take k).length = k := by rw [List.length_take]; omega
            have hfind := TreeFind_at b off cap (l.take k) (pathUp (nk l k).path) w2 (by omega) HCAP.out ((HC.out.below HB3.out).take k)
            rw [htk] at hfind
            have HFI := Lib.hid hfind
            have htl := treeFind_le (l.take k) (pathUp (nk l k).path)
            rw [htk] at htl
            have hkc : k ≤ cap := by omega
            clear hfind htk
            have HUP := Lib.hid (show UpOk l k ↔ ((pathUp (nk l k).path).size ≠ 0 → treeFind (l.take k) (pathUp (nk l k).path) < k ∧ (nk l (treeFind (l.take k) (pathUp (nk l k).path))).kind = 2) from Iff.rfl)
            generalize hn : treeFind (l.take k) (pathUp (nk l k).path) = n at HFI HUP htl
            generalize hup : pathUp (nk l k).path = up at HFI HUP
            have HUQ := Lib.hid hup
            clear hn hup
            go_upto_region 14 with (first | (go_at_call 34; refine HFI.out.mono ?_; rintro e w' ⟨rfl, rfl⟩))
            go_cut [67] from 13 to 105 (fun u wc => u = .bool (!upOkB l k) ∧ wc = w2)
            case first =>
              by_cases h0 : up.size = 0
              · have HU := Lib.hid (show upOkB l k = true from upOk_t (HUP.out.2 fun e => absurd h0 e))
                have he := empty_t h0
                clear h0
                go_wp2_with fail
                go_meet
                case rel => exact ⟨by rw [HU.out]; rfl, rfl⟩
              · have he := empty_f h0
                by_cases hnk : n = k
                · have HU := Lib.hid (show upOkB l k = false from upOk_f (fun e => by have := (HUP.out.1 e h0).1; omega))
                  clear h0
                  subst hnk
                  go_wp2_with fail
                  go_meet
                  case rel => exact ⟨by rw [HU.out]; rfl, rfl⟩
                · obtain ⟨_, q1, _⟩ := (HC.out.below HB3.out) n (by omega)
                  have hd : ((n : Int) == (k : Int)) = false := by rw [beq_eq_false_iff_ne]; omega
                  by_cases hkd : (nk l n).kind = 2
                  · have HU := Lib.hid (show upOkB l k = true from upOk_t (HUP.out.2 fun e => ⟨by omega, hkd⟩))
                    have hd2 : ((nk l n).kind != 2) = false := by rw [hkd]; rfl
                    go_wp2_with fail
                    go_meet
                    case rel => exact ⟨by rw [HU.out]; rfl, rfl⟩
                  · have HU := Lib.hid (show upOkB l k = false from upOk_f (fun e => hkd (HUP.out.1 e h0).2))
                    have hd2 : ((nk l n).kind != 2) = true := by rw [bne_iff_ne]; exact hkd
                    go_wp2_with fail
                    go_meet
                    case rel => exact ⟨by rw [HU.out]; rfl, rfl⟩
            case rest =>
              obtain ⟨rfl, rfl⟩ := hcut
              clear HFI HUP HUQ htl
              by_cases hU : UpOk l k
              · rw [upOk_t hU]
                have HUO := Lib.hid hU
                clear hU
                by_cases hs0 : (nk l k).same = 0
                · have HS := Lib.hid (stepF_ok HA.out HOK.out HUO.out (.inl hs0))
                  have hsd : ((nk l k).same == 0) = true := by rw [hs0]; rfl
                  clear hs0
                  go_wp2
                  go_roundw
                  case rel => exact ⟨k + 1, by omega, by go_num, Lib.hid fun j hj => by
                    by_cases e : j = k
                    · rw [e]; exact HS.out
                    · exact HZ.out j (by omega), HB3⟩
                  case measure => simp [intOf]; omega
                · have HS0 := Lib.hid hs0
                  have hsd : ((nk l k).same == 0) = false := by rw [beq_eq_false_iff_ne]; exact hs0
                  clear hs0
                  go_wp2
                  go_loopw [9] (fun i wr2 => ∃ j : Nat, j ≤ k ∧ i = .int .i64 j ∧ Hid (∀ q, q < j → (nk l q).same = (nk l k).same → likeB (nk l q) (nk l k) = true) ∧ Hid (Below wc.heap.size wc wr2)) (fun i _ => k - (intOf i).toNat)
                  case atStart => exact ⟨0, by omega, rfl, Lib.hid fun j hj => absurd hj (by omega), Lib.hid (Below.refl _ _)⟩
                  case round =>
                    obtain ⟨j, hj, rfl, HD, HBI⟩ := hrel
                    clear g0 g1 g2 g3 g4 g5 g6 g7 g8 g9 g10 g11
                    by_cases hjk : j < k
                    · have HBXI := Lib.hid (HBX3.out.below HBI.out)
                      have HNI := Lib.hid (((HC.out.below HB3.out).below HBI.out) j (by omega))
                      have HXI := Lib.hid ((((HO.out k hlt).below HB3.out).below HBI.out).data)
                      have HYI := Lib.hid ((((HO.out j (by omega)).below HB3.out).below HBI.out).data)
                      have hjl : (j : Int) < (l.length : Int) := by omega
                      go_upto_region 20 with fail
                      go_cut [105] from 71 to 105 (fun u wd => u = .bool (badB (nk l j) (nk l k)) ∧ Hid (Below wr.heap.size wr wd))
                      case first =>
                        obtain ⟨g0, g1, g2, g3, g4, g5, g6, g7, g8, g9, g10, g11⟩ := HBXI.out.zero
                        obtain ⟨y0, y1, y2, y3, y4, y5, y6, y7, y8, y9, y10, y11⟩ := HNI.out
                        have hcx : ∀ n, (convert 38 9 (.slice (nk l k).da (nk l k).data.length (nk l k).dcap)).run Tryd.prog (wr.drewN n) = .ok (.string (ofL (nk l k).data)) (wr.drewN n) := fun n => conv _ (HXI.out.below (fun _ _ h => h) (below_draws _ _ n))
                        have hcy : ∀ n, (convert 38 9 (.slice (nk l j).da (nk l j).data.length (nk l j).dcap)).run Tryd.prog (wr.drewN n) = .ok (.string (ofL (nk l j).data)) (wr.drewN n) := fun n => conv _ (HYI.out.below (fun _ _ h => h) (below_draws _ _ n))
                        by_cases hsm : (nk l j).same = (nk l k).same
                        · have hsd2 : ((nk l j).same == (nk l k).same) = true := by rw [hsm]; simp
                          by_cases hmt : (nk l j).mt = (nk l k).mt
                          · have e0 := congrArg Meta.mode hmt
                            have e1 := congrArg Meta.uid hmt
                            have e2 := congrArg Meta.gid hmt
                            have e3 : (nk l j).mt.user.toList = (nk l k).mt.user.toList := by rw [hmt]
                            have e4 : (nk l j).mt.group.toList = (nk l k).mt.group.toList := by rw [hmt]
                            have e5 := congrArg Meta.second hmt
                            have e6 := congrArg Meta.nano hmt
                            by_cases hdt : (nk l j).data = (nk l k).data
                            · have HBAD := Lib.hid (show badB (nk l j) (nk l k) = false by unfold badB; rw [likeB_t hmt hdt]; simp)
                              have hdd : ((ofL (nk l j).data).toList == (ofL (nk l k).data).toList) = true := by rw [hdt]; simp
                              clear hmt hdt
                              go_quiet (fail)
                              go_wp2_with fail
                              go_meet
                              case rel => exact ⟨by rw [HBAD.out], Lib.hid (below_draws _ _ _)⟩
                            · have HBAD := Lib.hid (show badB (nk l j) (nk l k) = true by unfold badB; rw [likeB_d hdt, hsm]; simp)
                              have hdd : ((ofL (nk l j).data).toList == (ofL (nk l k).data).toList) = false := seq_f (fun e => hdt (ofL_inj e))
                              clear hmt hdt
                              go_quiet (fail)
                              go_wp2_with fail
                              go_meet
                              case rel => exact ⟨by rw [HBAD.out], Lib.hid (below_draws _ _ _)⟩
                          · have HBAD := Lib.hid (show badB (nk l j) (nk l k) = true by unfold badB; rw [likeB_m hmt, hsm]; simp)
                            clear hcx hcy
                            rcases meta_cases hmt with e0 | ⟨e0, e1⟩ | ⟨e0, e1, e2⟩ | ⟨e0, e1, e2, e3⟩ | ⟨e0, e1, e2, e3, e4⟩ | ⟨e0, e1, e2, e3, e4, e5⟩ | ⟨e0, e1, e2, e3, e4, e5, e6⟩
                            all_goals clear hmt
                            all_goals go_quiet (fail)
                            all_goals go_wp2_with fail
                            all_goals go_meet
                            all_goals exact ⟨by rw [HBAD.out], Lib.hid (below_draws _ _ _)⟩
                        · have HBAD := Lib.hid (show badB (nk l j) (nk l k) = false by unfold badB; rw [decide_eq_false hsm]; rfl)
                          have hsd2 : ((nk l j).same == (nk l k).same) = false := by rw [beq_eq_false_iff_ne]; exact hsm
                          clear hcx hcy hsm
                          go_quiet (fail)
                          go_wp2_with fail
                          go_meet
                          case rel => exact ⟨by rw [HBAD.out], Lib.hid (below_draws _ _ _)⟩
                      case rest =>
                        obtain ⟨rfl, HBD⟩ := hcut
                        have HBI2 := Lib.hid (HBI.out.trans (HBD.out.mono HBI.out.size))
                        cases hbad : badB (nk l j) (nk l k) with
                        | true =>
                          have HF := Lib.hid (HAT.out 11 (stepF_like HA.out HOK.out HUO.out HS0.out hjk (bad_t hbad).1 (bad_t hbad).2) (by decide))
                          clear hbad
                          go_wp2
                          go_ret
                          exact ⟨ret_i HF.out, HB3.out.trans (HBI2.out.mono HB3.out.size)⟩
                        | false =>
                          have HBF := Lib.hid hbad
                          clear hbad
                          go_wp2
                          go_roundw
                          case rel => exact ⟨j + 1, by omega, by go_num, Lib.hid fun q hq he => by
                            by_cases e : q = j
                            · rw [e] at he ⊢; exact bad_f HBF.out he
                            · exact HD.out q (by omega) he, HBI2⟩
                          case measure => simp [intOf]; omega
                    · obtain rfl : j = k := by omega
                      have HS := Lib.hid (stepF_ok HA.out HOK.out HUO.out (.inr HD.out))
                      have HB4 := Lib.hid (HB3.out.trans (HBI.out.mono HB3.out.size))
                      go_wp2
                      go_roundw
                      case rel => exact ⟨j + 1, by omega, by go_num, Lib.hid fun q hq => by
                        by_cases e : q = j
                        · rw [e]; exact HS.out
                        · exact HZ.out q (by omega), HB4⟩
                      case measure => simp [intOf]; omega
              · have HF := Lib.hid (HAT.out 10 (stepF_upN HA.out HOK.out hU) (by decide))
                rw [upOk_f hU]
                clear hU
                go_wp2
                go_ret
                exact ⟨ret_i HF.out, HB3.out⟩
          · have HF := Lib.hid (HAT.out 6 (stepF_ord HA.out (ord_not hO).1 (ord_not hO).2) (by decide))
            rw [ordBad_t hO]
            clear hO
            go_wp2
            go_ret
            exact ⟨ret_i HF.out, HB2.out⟩
      · have HF := Lib.hid (HAT.out _ (stepF_nod hA) hA)
        go_wp2_with fail
        refine (nodF_call _ _ (HX.out.below ((Below.refl _ _).alloc (Nat.le_refl _) _))).mono ?_
        rintro e w1 ⟨rfl, hb⟩
        have HB1 := Lib.hid ((HB.out.alloc HB.out.size _).trans (hb.mono (by simp; exact Nat.le_succ_of_le HB.out.size)))
        clear hb h0 h1 h2 h3 h4 h5 h6 h7 h8 h9 h10 h11
        generalize nodFault (nk l k) = q at *
        go_wp2
        go_ret
        exact ⟨ret_i HF.out, HB1.out⟩
    · obtain rfl : k = l.length := by omega
      have HF := Lib.hid (treeFault_ok hfew HZ.out)
      go_wp2
      go_ret
      exact ⟨ret_i HF.out, HB.out⟩
set_option maxRecDepth 100000 in
theorem TreeFault_nil (a : Option Addr) (cap : Nat) (w : World) :
    Calls Tryd.prog 33 #[.slice a 0 cap] w fun e w' => e = .returned (.int .i64 0) ∧ w = w' := by
  go_enter Tryd.func33, Tryd.ntmps33
  go_wp2
  go_loop [3, 4, 5, 6, 7, 8, 9] (fun i _ _ _ _ _ _ => i = .int .i64 0) (fun _ _ _ _ _ _ _ => 0)
  case atStart => rfl
  case round =>
    obtain rfl := hrel
    go_wp2
    go_ret
    exact ⟨rfl, rfl⟩
open Go.Creel Go.RowKit
set_option maxRecDepth 100000 in
set_option maxHeartbeats 40000000 in
theorem TreeRight_any {N : Nat} (x : Nod) (w : World) (hM : MaxOk w) (hp : x.path.size ≤ N) (ht : x.target.size ≤ N) (hm : x.mt.Ok N) (hd : x.data.length ≤ maxLen) (hk : i64 x.kind) (hs : i64 x.same) (hN : N ≤ maxLen) :
    Calls Tryd.prog 69 #[x.val] w fun e w' => e = .returned (.int .i64 (nodFault x)) ∧ Below w.heap.size w w' := by
  obtain ⟨path, kind, same, target, ⟨mode, uid, gid, user, group, second, nano⟩, da, dcap, data⟩ := x
  unfold maxLen at hd
  have HPZ := Lib.hid (Nat.le_trans hp hN)
  have HTZ := Lib.hid (Nat.le_trans ht hN)
  have htz := Nat.le_trans ht hN
  unfold maxLen at htz
  have HMO := Lib.hid hm
  have HM := Lib.hid hM
  have hk2 := hk
  have hs2 := hs
  unfold i64 at hk2 hs2
  have hix := idx_has target 0
  have HF : Hid (∀ c, nodFaultN (pathFault path) (metaFault ⟨mode, uid, gid, user, group, second, nano⟩) kind same data.length target.size (hasN target) = c → nodFault ⟨path, kind, same, target, ⟨mode, uid, gid, user, group, second, nano⟩, da, dcap, data⟩ = c) := Lib.hid fun c h => h
  generalize hR : nodFault _ = R at *
  clear hp ht hm hM hk hs hR
  have hix0 : Hid (hasB target 0 = true ∨ hasB target 0 = false) := Lib.hid (by cases hasB target 0 <;> simp)
  show Calls Tryd.prog 69 #[.agg #[.string path, .int .i64 kind, .int .i64 same, .string target, .int .i64 mode, .int .i64 uid, .int .i64 gid, .string user, .string group, .int .i64 second, .int .i64 nano, .slice da data.length dcap]] w _
  go_enter Tryd.func69, Tryd.ntmps69
  go_wp2_with fail
  refine (PathCheck_any path _ (HM.out.below ((Below.refl _ _).alloc (Nat.le_refl _) _)) HPZ.out).mono ?_
  rintro e w1 ⟨rfl, hb⟩
  have HB1 := Lib.hid (((Below.refl _ _).alloc (Nat.le_refl _) _).trans (hb.mono (by simp)))
  obtain ⟨hc1, _⟩ := bcell hb
  have HB := Lib.hid hb
  clear hb
  by_cases hp0 : pathFault path = 0
  · rw [hp0]
    have HP0 := Lib.hid hp0
    clear hp0
    go_wp2_with fail
    refine (MetaCheck_any ⟨mode, uid, gid, user, group, second, nano⟩ _ HMO.out hN).mono ?_
    rintro e w2 ⟨rfl, hb⟩
    have HB2 := Lib.hid (HB1.out.trans (hb.mono HB1.out.size))
    have hb2 := HB.out.trans (hb.mono HB.out.size)
    obtain ⟨hc2, _⟩ := bcell hb2
    have HBB2 := Lib.hid hb2
    clear hb hb2 hc1
    by_cases hm0 : metaFault ⟨mode, uid, gid, user, group, second, nano⟩ = 0
    · rw [hm0]
      have HM0 := Lib.hid hm0
      clear hm0
      rw [HP0.out, HM0.out] at HF
      by_cases ht0 : target.size = 0
      · have he := empty_t ht0
        have hh := has_empty ht0
        all_goals
          first | rw [hasN_t hh] at HF | rw [hasN_f hh] at HF
          rw [hh] at hix
          go_wp2_with (go_at_call 87; refine (IndexByte_any _ _ _).mono ?_; rintro e w' ⟨rfl, rfl⟩)
          all_goals
            first
              | (exfalso; (try simp only [← List.length_eq_zero_iff, beq_iff_eq, beq_eq_false_iff_ne, bne_iff_ne, bne_eq_false_iff_eq, ne_eq] at *); omega)
              | (go_ret; exact ⟨ret_i (HF.out _ (by (try simp only [← List.length_eq_zero_iff, beq_iff_eq, beq_eq_false_iff_ne, bne_iff_ne, bne_eq_false_iff_eq, ne_eq] at *); unfold nodFaultN; repeat (first | rw [if_pos (by omega)] | rw [if_neg (by omega)] | rw [if_pos rfl] | rw [if_neg (by decide)]))), HB2.out⟩)
      · have he := empty_f ht0
        rcases hix0.out with hh | hh
        all_goals
          first | rw [hasN_t hh] at HF | rw [hasN_f hh] at HF
          rw [hh] at hix
          go_wp2_with (go_at_call 87; refine (IndexByte_any _ _ _).mono ?_; rintro e w' ⟨rfl, rfl⟩)
          all_goals
            first
              | (exfalso; (try simp only [← List.length_eq_zero_iff, beq_iff_eq, beq_eq_false_iff_ne, bne_iff_ne, bne_eq_false_iff_eq, ne_eq] at *); omega)
              | (go_ret; exact ⟨ret_i (HF.out _ (by (try simp only [← List.length_eq_zero_iff, beq_iff_eq, beq_eq_false_iff_ne, bne_iff_ne, bne_eq_false_iff_eq, ne_eq] at *); unfold nodFaultN; repeat (first | rw [if_pos (by omega)] | rw [if_neg (by omega)] | rw [if_pos rfl] | rw [if_neg (by decide)]))), HB2.out⟩)
    · have HRR := Lib.hid (HF.out _ (show _ = metaFault ⟨mode, uid, gid, user, group, second, nano⟩ by unfold nodFaultN; rw [if_neg (by rw [HP0.out]; simp), if_pos hm0]))
      have hne := hm0
      generalize metaFault ⟨mode, uid, gid, user, group, second, nano⟩ = m at *
      go_wp2
      go_ret
      exact ⟨ret_i HRR.out, HB2.out⟩
  · have HRR := Lib.hid (HF.out _ (show _ = pathFault path by unfold nodFaultN; rw [if_pos hp0]))
    have hne := hp0
    generalize pathFault path = p at *
    go_wp2
    go_ret
    exact ⟨ret_i HRR.out, HB1.out⟩
open Go.Creel Go.RowKit
set_option maxRecDepth 100000 in
theorem Compare_any (a b : ByteArray) (w : World) (hM : MaxOk w) (ha : a.size ≤ 1048576) (hb : b.size ≤ 1048576) :
    Calls Tryd.prog 31 #[.string a, .string b] w fun e w' => e = .returned (.int .i64 (ordP (pathParts a) (pathParts b))) ∧ Below w.heap.size w w' := by
  have HX := Lib.hid (parts_len' ha)
  have HY := Lib.hid (parts_len' hb)
  have HM := Lib.hid hM
  clear hM
  go_enter Tryd.func31, Tryd.ntmps31
  go_wp2_with fail
  refine (Parts_any _ _ HM.out (by omega)).mono ?_
  rintro e w1 ⟨v1, rfl, ho, hb1⟩
  have HB1 := Lib.hid hb1
  have HO1 := Lib.hid ho
  clear hb1 ho
  go_wp2_with fail
  refine (Parts_any _ _ (HM.out.below HB1.out) (by omega)).mono ?_
  rintro e w2 ⟨v2, rfl, ho, hb2⟩
  have HB2 := Lib.hid (HB1.out.trans (hb2.mono HB1.out.size))
  have HO2 := Lib.hid (HO1.out.below hb2)
  have HP2 := Lib.hid ho
  clear hb2 ho
  go_wp2_with fail
  refine (cmpTexts_any _ _ _ _ _ _ _ HX.out HY.out HO2.out HP2.out).mono ?_
  rintro e w3 ⟨rfl, hb3⟩
  have HB3 := Lib.hid (HB2.out.trans (hb3.mono HB2.out.size))
  clear hb3
  go_wp2
  go_ret
  exact ⟨rfl, HB3.out⟩
end Go.Proofs.YtaffgndickdbiaaDoor
