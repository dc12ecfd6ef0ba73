/-
  What rules take: filter.takes, filter.Takes and their references, walked.
-/
import Derived.Test.YtecmcgedeaemgaaDoorRules
import Derived.Test.YtecmcgedeaemgaaDoorGlobPaths
namespace Go.Creel
set_option linter.unusedVariables false
set_option linter.unusedSimpArgs false
open Go.RowKit
/-- what the first k rules say -/
def takenTo (l : List Rul) (s : ByteArray) : Nat → Bool
  | 0 => true
  | k + 1 => if (globFitsE (rk l k).pat s).1 = true then (rk l k).take else takenTo l s k
def takenR (l : List Rul) (s : ByteArray) : Bool := takenTo l s l.length
theorem takenTo_yes {l : List Rul} {s : ByteArray} {k : Nat} (h : (globFitsE (rk l k).pat s).1 = true) : takenTo l s (k + 1) = (rk l k).take := by rw [takenTo, if_pos h]
theorem takenTo_no {l : List Rul} {s : ByteArray} {k : Nat} (h : (globFitsE (rk l k).pat s).1 = false) : takenTo l s (k + 1) = takenTo l s k := by rw [takenTo, if_neg (by rw [h]; simp)]
def takesE (l : List Rul) (s : ByteArray) : Bool × Int := if ¬ rulesFault l = 0 then (false, rulesFault l) else if ¬ pathFault s = 0 then (false, pathFault s) else (takenR l s, 0)
theorem takesE_bad {l : List Rul} {s : ByteArray} (h : ¬ rulesFault l = 0) : takesE l s = (false, rulesFault l) := by unfold takesE; rw [if_pos h]
theorem takesE_path {l : List Rul} {s : ByteArray} (h : rulesFault l = 0) (h2 : ¬ pathFault s = 0) : takesE l s = (false, pathFault s) := by unfold takesE; rw [if_neg (by simpa using h), if_pos h2]
theorem takesE_ok {l : List Rul} {s : ByteArray} (h : rulesFault l = 0) (h2 : pathFault s = 0) : takesE l s = (takenR l s, 0) := by unfold takesE; rw [if_neg (by simpa using h), if_neg (by simpa using h2)]
end Go.Creel
namespace Go.Proofs.YtecmcgedeaemgaaDoor
set_option linter.unusedVariables false
set_option linter.unusedSimpArgs false
open Go.Creel Go.RowKit
set_option maxRecDepth 100000 in
set_option maxHeartbeats 1000000 in
theorem TakesL_at (b off cap : Nat) (l : List Rul) (s : ByteArray) (w : World) (hM : MaxOk w) (hs : s.size ≤ maxLen) (hpos : 0 < l.length) (hle : l.length ≤ cap) (hm : cap ≤ maxLen) (hc : RulsAt w b off l) (ho : ∀ i, i < l.length → (rk l i).pat.size ≤ maxLen) :
    Calls Tryd.prog 68 #[.slice (some ⟨b, off, none⟩) l.length cap, .string s] w fun e w' => e = .returned (.bool (takenR l s)) ∧ Below w.heap.size w w' := by
  unfold maxLen at hm
  have HC := Lib.hid hc
  have HO := Lib.hid ho
  have HM := Lib.hid hM
  have HSS := Lib.hid hs
  clear hc ho hM hs
  go_enter Tryd.func68, Tryd.ntmps68
  go_wp2
  go_loopw [5, 6, 7] (fun v5 _ _ wr => ∃ k : Nat, k ≤ l.length ∧ v5 = .int .i64 ((k : Int) - 1) ∧ Hid (takenR l s = takenTo l s k) ∧ Hid (Below w.heap.size w wr)) (fun v5 _ _ _ => ((intOf v5) + 1).toNat)
  case atStart => exact ⟨l.length, by omega, rfl, Lib.hid rfl, Lib.hid (Below.refl _ _)⟩
  case round =>
    obtain ⟨k, hk, rfl, HD, HB⟩ := hrel
    cases k with
    | zero =>
      have HF := Lib.hid (HD.out.trans (by rw [takenTo]))
      rw [show ((0 : Nat) : Int) - 1 = -1 by rfl]
      go_wp2
      go_ret
      exact ⟨ret_b HF.out, HB.out⟩
    | succ j =>
      rw [show (((j + 1 : Nat)) : Int) - 1 = (j : Int) by omega]
      have hjl : j < l.length := by omega
      obtain ⟨h0, h1⟩ := (HC.out.below HB.out) j hjl
      have HG := Lib.hid (fun w hM => GlobFitsL_any (rk l j).pat s w hM (HO.out j hjl) HSS.out)
      have HYES := Lib.hid (fun h => HD.out.trans (takenTo_yes (l := l) (s := s) (k := j) h))
      have HNO := Lib.hid (fun h => HD.out.trans (takenTo_no (l := l) (s := s) (k := j) h))
      have HRAT := Lib.hid (fun w' hb => RulAt.below (w := wr) (w' := w') (b := b) (o := off + j * 2) (x := rk l j) ⟨h0, h1⟩ hb)
      generalize rk l j = x at *
      generalize globFitsE x.pat s = r at *
      obtain ⟨r1, r2⟩ := r
      clear HD
      go_wp2_with fail
      refine (HG.out _ (HM.out.below HB.out)).mono ?_
      rintro e w2 ⟨rfl, hb⟩
      have HB2 := Lib.hid (HB.out.trans (hb.mono HB.out.size))
      obtain ⟨g0, g1⟩ := HRAT.out _ hb
      clear hb
      cases r1 with
      | true =>
        have HF := Lib.hid (HYES.out rfl)
        go_wp2
        go_ret
        exact ⟨ret_b HF.out, HB2.out⟩
      | false =>
        have HN := Lib.hid (HNO.out rfl)
        go_wp2
        go_roundw
        case rel => exact ⟨j, by omega, rfl, HN, HB2⟩
        case measure => simp [intOf]
set_option maxRecDepth 100000 in
theorem TakesL_nil (a : Option Addr) (cap : Nat) (s : ByteArray) (w : World) :
    Calls Tryd.prog 68 #[.slice a 0 cap, .string s] w fun e w' => e = .returned (.bool true) ∧ w = w' := by
  go_enter Tryd.func68, Tryd.ntmps68
  go_wp2
  go_loop [5, 6, 7] (fun i _ _ => i = .int .i64 (-1)) (fun i _ _ => 0)
  case atStart => rfl
  case round =>
    obtain rfl := hrel
    go_wp2
    go_ret
    exact ⟨rfl, rfl⟩
theorem TakesL_any (v : Value) (l : List Rul) (s : ByteArray) (w : World) (hM : MaxOk w) (hs : s.size ≤ maxLen) (h : SliceC maxLen 2 (RulC maxLen) w [v] l) :
    Calls Tryd.prog 68 #[v, .string s] w fun e w' => e = .returned (.bool (takenR l s)) ∧ Below w.heap.size w w' := by
  rcases ruls_cases h with ⟨a, cap, rfl, rfl, _⟩ | ⟨b, off, cap, rfl, h1, h2, h3, _, h4, h5⟩
  · exact (TakesL_nil a cap s w).mono fun e w' ⟨h1, h2⟩ => ⟨h1, by rw [← h2]; exact Below.refl _ _⟩
  · exact TakesL_at b off cap l s w hM hs h1 h2 h3 h4 h5
set_option maxRecDepth 100000 in
set_option maxHeartbeats 1000000 in
theorem TakenR_at (b off cap : Nat) (l : List Rul) (s : ByteArray) (w : World) (hs : s.size ≤ maxLen) (hpos : 0 < l.length) (hle : l.length ≤ cap) (hm : cap ≤ maxLen) (hc : RulsAt w b off l) (ho : ∀ i, i < l.length → (rk l i).pat.size ≤ maxLen) :
    Calls Tryd.prog 69 #[.slice (some ⟨b, off, none⟩) l.length cap, .string s] w fun e w' => e = .returned (.bool (takenR l s)) ∧ Below w.heap.size w w' := by
  unfold maxLen at hm
  have HC := Lib.hid hc
  have HO := Lib.hid ho
  have HSS := Lib.hid hs
  clear hc ho hs
  go_enter Tryd.func69, Tryd.ntmps69
  go_wp2
  go_loopw [5, 7, 8, 9, 12] (fun v5 _ _ _ i wr => ∃ (k : Nat) (q : Bool), k ≤ l.length ∧ i = .int .i64 k ∧ v5 = .bool q ∧ Hid (q = takenTo l s k) ∧ Hid (Below w.heap.size w wr)) (fun _ _ _ _ i _ => l.length - (intOf i).toNat)
  case atStart => exact ⟨0, true, by omega, rfl, rfl, Lib.hid rfl, Lib.hid (Below.refl _ _)⟩
  case round =>
    obtain ⟨k, q, hk, rfl, rfl, HD, HB⟩ := hrel
    by_cases hlt : k < l.length
    · obtain ⟨h0, h1⟩ := (HC.out.below HB.out) k hlt
      have HG := Lib.hid (fun w => GlobFitsR_any (rk l k).pat s w (HO.out k hlt) HSS.out)
      have HYES := Lib.hid (fun h => (takenTo_yes (l := l) (s := s) (k := k) h).symm)
      have HNO := Lib.hid (fun h => HD.out.trans (takenTo_no (l := l) (s := s) (k := k) h).symm)
      generalize rk l k = x at *
      generalize globFitsE x.pat s = r at *
      obtain ⟨r1, r2⟩ := r
      clear HD
      have HBB := Lib.hid (HB.out.alloc HB.out.size (.cells #[.bool x.take, .string x.pat] 81))
      go_wp2_with fail
      refine (HG.out _).mono ?_
      rintro e w2 ⟨rfl, hb⟩
      have HB2 := Lib.hid (HBB.out.trans (hb.mono HBB.out.size))
      have g0 : w2.cell? ⟨wr.heap.size, 0, none⟩ = some (.bool x.take) := (hb.cell (p := ⟨wr.heap.size, 0, none⟩) (by simp)).trans (by simp [World.cell?_alloc_new])
      clear hb
      cases r1 with
      | true =>
        have HF := Lib.hid (HYES.out rfl)
        go_wp2
        go_roundw
        case rel => exact ⟨k + 1, _, by omega, by go_num, rfl, HF, HB2⟩
        case measure => simp [intOf]; omega
      | false =>
        have HN := Lib.hid (HNO.out rfl)
        go_wp2
        go_roundw
        case rel => exact ⟨k + 1, _, by omega, by go_num, rfl, HN, HB2⟩
        case measure => simp [intOf]; omega
    · obtain rfl : k = l.length := by omega
      have HF := Lib.hid (show takenR l s = q from HD.out.symm)
      go_wp2
      go_ret
      exact ⟨ret_b HF.out, HB.out⟩
set_option maxRecDepth 100000 in
theorem TakenR_nil (a : Option Addr) (cap : Nat) (s : ByteArray) (w : World) :
    Calls Tryd.prog 69 #[.slice a 0 cap, .string s] w fun e w' => e = .returned (.bool true) ∧ w = w' := by
  go_enter Tryd.func69, Tryd.ntmps69
  go_wp2
  go_loop [5, 7, 8, 9, 12] (fun v5 _ _ _ i => i = .int .i64 0 ∧ v5 = .bool true) (fun _ _ _ _ i => 0)
  case atStart => exact ⟨rfl, rfl⟩
  case round =>
    obtain ⟨rfl, rfl⟩ := hrel
    go_wp2
    go_ret
    exact ⟨rfl, rfl⟩
theorem TakenR_any (v : Value) (l : List Rul) (s : ByteArray) (w : World) (hs : s.size ≤ maxLen) (h : SliceC maxLen 2 (RulC maxLen) w [v] l) :
    Calls Tryd.prog 69 #[v, .string s] w fun e w' => e = .returned (.bool (takenR l s)) ∧ Below w.heap.size w w' := by
  rcases ruls_cases h with ⟨a, cap, rfl, rfl, _⟩ | ⟨b, off, cap, rfl, h1, h2, h3, _, h4, h5⟩
  · exact (TakenR_nil a cap s w).mono fun e w' ⟨h1, h2⟩ => ⟨h1, by rw [← h2]; exact Below.refl _ _⟩
  · exact TakenR_at b off cap l s w hs h1 h2 h3 h4 h5
end Go.Proofs.YtecmcgedeaemgaaDoor
