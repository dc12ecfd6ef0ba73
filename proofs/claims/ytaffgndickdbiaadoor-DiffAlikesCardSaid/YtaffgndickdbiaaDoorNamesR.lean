/-
  creelref.LinkNames.
-/
import Derived.Test.YtaffgndickdbiaaDoorLinkR
namespace Go.Creel
set_option linter.unusedVariables false
open Go.RowKit
theorem linkNames_bad {l : List Nod} (h : ¬ treeFault l = 0) : linkNames l = ([], treeFault l) := by unfold linkNames; rw [if_pos h]
theorem linkNames_ok {l : List Nod} (h : treeFault l = 0) : linkNames l = (namesN l l.length, 0) := by unfold linkNames; rw [if_neg (by simpa using h)]
theorem namesN_len (l : List Nod) (k : Nat) : (namesN l k).length = k := by simp [namesN]
theorem namesN_succ (l : List Nod) (k : Nat) : namesN l (k + 1) = namesN l k ++ [(manyN l l.length (fstIdx l k) : Int)] := by unfold namesN; rw [List.range_succ, List.map_append]; rfl
theorem manyN_le (l : List Nod) (k f : Nat) : manyN l k f ≤ k := by
  unfold manyN
  exact Nat.le_trans (List.length_filter_le _ _) (by simp)
theorem nodFault_same {x : Nod} (h : nodFault x = 0) : 0 ≤ x.same := by
  unfold nodFault nodFaultN at h
  split at h
  · rename_i h1; exact absurd h h1
  · split at h
    · rename_i h1; exact absurd h h1
    · split at h
      · split at h
        · cases h
        · rename_i h1; omega
      · split at h
        · split at h
          · cases h
          · rename_i h1; omega
        · cases h
end Go.Creel
namespace Go.Proofs.YtaffgndickdbiaaDoor
set_option linter.unusedVariables false
set_option linter.unusedSimpArgs false
open Go.Creel Go.RowKit
set_option maxRecDepth 100000 in
set_option maxHeartbeats 4000000 in
theorem NamesR_at (b off cap : Nat) (l : List Nod) (w : World) (hpos : 0 < l.length) (hle : l.length ≤ cap) (hm : cap ≤ maxLen) (hc : NodsAt w b off l) (h : SliceC maxLen 12 (NodC maxLen) w [.slice (some ⟨b, off, none⟩) l.length cap] l) :
    Calls Tryd.prog 80 #[.slice (some ⟨b, off, none⟩) l.length cap] w (RetIE 3 w (linkNames l)) := by
  obtain ⟨i0, hi, hz0, hz1, hz2⟩ := info_parts info_int
  have HI := Lib.hid (And.intro hi (And.intro hz0 (And.intro hz1 hz2)))
  have H := Lib.hid h
  have HCW := Lib.hid hc
  unfold maxLen at hm
  clear h hc hi hz0 hz1 hz2
  by_cases hE : treeFault l = 0
  · have HE := Lib.hid hE
    have HF := Lib.hid (linkNames_ok hE)
    have hfew := (treeFault_all hE).1
    have HSM := Lib.hid (fun (k : Nat) (hk : k < l.length) => nodFault_same ((treeFault_all hE).2 k hk))
    clear hE
    go_enter Tryd.func80, Tryd.ntmps80
    go_wp2_with fail
    refine (TreeFault_any _ l _ H.out).mono ?_
    rintro e wa ⟨rfl, hb⟩
    have HBA0 := Lib.hid hb
    have HC := Lib.hid (HCW.out.below hb)
    rw [HE.out]
    clear hb
    go_wp2
    go_loopw [5, 6, 7, 8] (fun v i _ _ wr => ∃ k : Nat, k ≤ l.length ∧ i = .int .i64 k ∧ Hid (OwnIs 3 wr wa.heap.size v (namesN l k)) ∧ Hid (Below wa.heap.size wa wr)) (fun _ i _ _ _ => l.length - (intOf i).toNat)
    case atStart => exact ⟨0, by omega, rfl, Lib.hid (World.ownsRow_nil _ _ _ 1), Lib.hid (Below.refl _ _)⟩
    case round =>
      obtain ⟨k, hk, rfl, HOW, HB⟩ := hrel
      have hfl := namesN_len l k
      by_cases hlt : k < l.length
      · have hkl : (k : Int) < (l.length : Int) := by omega
        have HCB := Lib.hid (HC.out.below HB.out)
        have hsk := HSM.out k hlt
        go_wp2
        go_loopw [7, 8] (fun c i wr2 => ∃ q n : Nat, q ≤ l.length ∧ i = .int .i64 q ∧ c = .int .i64 n ∧ Hid (n = manyN l q (fstIdx l k)) ∧ Hid (Below wr.heap.size wr wr2)) (fun _ i _ => l.length - (intOf i).toNat)
        case atStart => exact ⟨0, 0, by omega, rfl, rfl, Lib.hid rfl, Lib.hid (Below.refl _ _)⟩
        case round =>
          obtain ⟨q, n, hq, rfl, rfl, HN, HBI⟩ := hrel
          have hnq := manyN_le l q (fstIdx l k)
          rw [← HN.out] at hnq
          by_cases hql : q < l.length
          · obtain ⟨_, _, x2, _⟩ := (HCB.out.below HBI.out) k hlt
            obtain ⟨_, _, y2, _⟩ := (HCB.out.below HBI.out) q hql
            have hqi : (q : Int) < (l.length : Int) := by omega
            by_cases hqk : q = k
            · have hd : ((q : Int) == (k : Int)) = true := by rw [hqk]; simp
              have HN2 := Lib.hid (show n + 1 = manyN l (q + 1) (fstIdx l k) by rw [manyN_succ, if_pos (fstIdx_eq.2 (.inl hqk)), HN.out])
              go_wp2
              go_quiet (fail)
              go_wp2
              go_roundw
              case rel => exact ⟨q + 1, n + 1, by omega, by go_num, by go_num, HN2, Lib.hid (HBI.out.trans (below_draws _ _ _))⟩
              case measure => simp [intOf]; omega
            · have hd : ((q : Int) == (k : Int)) = false := by rw [beq_eq_false_iff_ne]; omega
              by_cases hs0 : (nk l k).same = 0
              · have hg : decide (0 < (nk l k).same) = false := by rw [hs0]; rfl
                have HN2 := Lib.hid (show n = manyN l (q + 1) (fstIdx l k) by rw [manyN_succ, if_neg (fun e => absurd (fstIdx_eq.1 e) (by rintro (e | ⟨e, _⟩); exact hqk e; exact e hs0)), HN.out]; rfl)
                go_wp2
                go_quiet (fail)
                go_wp2
                go_roundw
                case rel => exact ⟨q + 1, n, by omega, by go_num, rfl, HN2, Lib.hid (HBI.out.trans (below_draws _ _ _))⟩
                case measure => simp [intOf]; omega
              · have hg : decide (0 < (nk l k).same) = true := decide_eq_true (by omega)
                have hg2 : 0 < (nk l k).same := by omega
                by_cases he : (nk l q).same = (nk l k).same
                · have hsq : ((nk l q).same == (nk l k).same) = true := by rw [he]; simp
                  have HN2 := Lib.hid (show n + 1 = manyN l (q + 1) (fstIdx l k) by rw [manyN_succ, if_pos (fstIdx_eq.2 (.inr ⟨hs0, he⟩)), HN.out])
                  go_wp2
                  go_quiet (fail)
                  go_wp2
                  go_roundw
                  case rel => exact ⟨q + 1, n + 1, by omega, by go_num, by go_num, HN2, Lib.hid (HBI.out.trans (below_draws _ _ _))⟩
                  case measure => simp [intOf]; omega
                · have hsq : ((nk l q).same == (nk l k).same) = false := by rw [beq_eq_false_iff_ne]; exact he
                  have HN2 := Lib.hid (show n = manyN l (q + 1) (fstIdx l k) by rw [manyN_succ, if_neg (fun e => absurd (fstIdx_eq.1 e) (by rintro (e | ⟨_, e⟩); exact hqk e; exact he e)), HN.out]; rfl)
                  go_wp2
                  go_quiet (fail)
                  go_wp2
                  go_roundw
                  case rel => exact ⟨q + 1, n, by omega, by go_num, rfl, HN2, Lib.hid (HBI.out.trans (below_draws _ _ _))⟩
                  case measure => simp [intOf]; omega
          · obtain rfl : l.length = q := by omega
            have HA := Lib.hid ((Below.refl wr.heap.size wr).alloc (Nat.le_refl _) (.cells #[.int .i64 (n : Int)] 3))
            have HB5 := Lib.hid (HB.out.trans (HBI.out.mono HB.out.size))
            have HOA := Lib.hid (OwnIs.below (HOW.out.below HBI.out) HA.out)
            have HBA := Lib.hid (HB5.out.trans (HA.out.mono HB5.out.size))
            have HSA := Lib.hid (HBA.out.size)
            go_wp2_with (at_builtin; refine wpList_app _ rfl (.tmp 52) (.tmp 54) 102 102 rfl _ _ rfl rfl (n := (namesN l k).length) (fun ty => app_src _ _ _ _ wa.heap.size 3 i0 (.int .i64 0) 1 8 Tryd.underlying102 HI.out.1 HI.out.2.1 HI.out.2.2.1 HI.out.2.2.2 rfl (by decide) _ _ _ _ _ _ HOA.out (src_one wr _ _ _ Tryd.underlying102 _ rfl) (by unfold maxLen; omega) (by omega) HSA.out) ?_; intro v1 w4 ho hg _)
            have HO4 := Lib.hid (OwnIs.app (m := [(n : Int)]) ho)
            have HB4 := Lib.hid (below_app HBA.out hg HOA.out HSA.out)
            clear ho hg
            go_wp2
            go_roundw
            case rel => exact ⟨k + 1, by omega, by go_num, Lib.hid (by rw [namesN_succ, ← HN.out]; exact HO4.out), HB4⟩
            case measure => simp [intOf]; omega
      · obtain rfl : k = l.length := by omega
        go_wp2
        go_ret2
        rw [HF.out]
        exact ⟨_, rfl, HOW.out.mono HBA0.out.size, HBA0.out.trans (HB.out.mono HBA0.out.size)⟩
  · have HF := Lib.hid (linkNames_bad hE)
    have HE := Lib.hid hE
    clear hE
    go_enter Tryd.func80, Tryd.ntmps80
    go_wp2_with fail
    refine (TreeFault_any _ l _ H.out).mono ?_
    rintro e wc ⟨rfl, hb⟩
    have HBC := Lib.hid hb
    clear hb
    have hne := HE.out
    generalize treeFault l = q at *
    go_wp2
    go_ret2
    rw [HF.out]
    exact ⟨_, rfl, World.ownsRow_nil _ _ _ 1, HBC.out⟩
end Go.Proofs.YtaffgndickdbiaaDoor
