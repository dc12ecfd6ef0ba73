/-
  Rules: what a slice of rules says of the cells; filter.Check and its reference.
-/
import Derived.Test.YtecmcgedeaemgaaDoorGlobFault
namespace Go.Creel
set_option linter.unusedVariables false
open Go.RowKit
structure Rul where
  take : Bool
  pat : ByteArray
def RulC (N : Nat) (_ : World) (cs : List Value) (x : Rul) : Prop := cs = [.bool x.take, .string x.pat] ∧ x.pat.size ≤ N
def rulZ : Rul := ⟨false, .empty⟩
def rk (l : List Rul) (k : Nat) : Rul := l.getD k rulZ
theorem rk_eq {l : List Rul} {k : Nat} (h : k < l.length) : rk l k = l[k] := by simp [rk, List.getD_eq_getElem?_getD, List.getElem?_eq_getElem h]
def RulAt (w : World) (b o : Nat) (x : Rul) : Prop := w.cell? ⟨b, o, none⟩ = some (.bool x.take) ∧ w.cell? ⟨b, o + 1, none⟩ = some (.string x.pat)
def RulsAt (w : World) (b off : Nat) (l : List Rul) : Prop := ∀ i, i < l.length → RulAt w b (off + i * 2) (rk l i)
theorem RulAt.lt {w : World} {b o : Nat} {x : Rul} (h : RulAt w b o x) : b < w.heap.size := World.block_lt_of_cell? w _ h.1
theorem RulAt.below {w w' : World} {b o : Nat} {x : Rul} (h : RulAt w b o x) (hb : Below w.heap.size w w') : RulAt w' b o x := by
  have hlt := h.lt
  obtain ⟨h0, h1⟩ := h
  exact ⟨(hb.cell (p := ⟨b, o, none⟩) hlt).trans h0, (hb.cell (p := ⟨b, o + 1, none⟩) hlt).trans h1⟩
theorem RulsAt.below {w w' : World} {b off : Nat} {l : List Rul} (h : RulsAt w b off l) (hb : Below w.heap.size w w') : RulsAt w' b off l := fun i hi => (h i hi).below hb
theorem ruls_cases {N : Nat} {w : World} {v : Value} {l : List Rul} (h : SliceC N 2 (RulC N) w [v] l) : (∃ a cap, v = .slice a 0 cap ∧ l = [] ∧ cap ≤ maxLen ∧ (a = none → cap = 0)) ∨
    ∃ b off cap, v = .slice (some ⟨b, off, none⟩) l.length cap ∧ 0 < l.length ∧ l.length ≤ cap ∧ cap ≤ maxLen ∧ l.length ≤ N ∧ RulsAt w b off l ∧ ∀ i, i < l.length → (rk l i).pat.size ≤ N := by
  obtain ⟨a, cap, hv, h1, h2, h3, h5, h4⟩ := h
  simp only [List.cons.injEq, and_true] at hv
  by_cases hl : 0 < l.length
  · obtain ⟨b, off, rfl, hc⟩ := h4 hl
    refine .inr ⟨b, off, cap, hv, hl, h1, h2, h3, fun i hi => ?_, fun i hi => ?_⟩
    · obtain ⟨c, _, hcc, hE, hn⟩ := hc i hi
      rw [rk_eq hi]
      subst hE
      exact ⟨hcc 0 (by omega), hcc 1 (by omega)⟩
    · obtain ⟨c, _, hcc, hE, hn⟩ := hc i hi
      rw [rk_eq hi]
      exact hn
  · have : l = [] := by
      cases l with
      | nil => rfl
      | cons x r => simp at hl
    subst this
    exact .inl ⟨a, cap, by simpa using hv, rfl, h2, h5⟩
def firstR : List Rul → Int
  | [] => 0
  | x :: l => if globFault x.pat = 0 then firstR l else globFault x.pat
theorem firstR_bad : ∀ {l : List Rul} {k : Nat}, k < l.length → (∀ j, j < k → globFault (rk l j).pat = 0) → ¬ globFault (rk l k).pat = 0 → firstR l = globFault (rk l k).pat
  | [], k, h, _, _ => absurd h (by simp)
  | x :: l, 0, _, _, h => by
    have h' : ¬ globFault x.pat = 0 := h
    unfold firstR
    rw [if_neg h']
    rfl
  | x :: l, k + 1, h, h0, h1 => by
    have e : globFault x.pat = 0 := h0 0 (by omega)
    have ih := firstR_bad (l := l) (k := k) (by simpa using h) (fun j hj => h0 (j + 1) (by omega)) h1
    unfold firstR
    rw [if_pos e, ih]
    rfl
theorem firstR_ok : ∀ {l : List Rul}, (∀ j, j < l.length → globFault (rk l j).pat = 0) → firstR l = 0
  | [], _ => rfl
  | x :: l, h => by
    have e : globFault x.pat = 0 := h 0 (by simp)
    have ih := firstR_ok (l := l) (fun j hj => h (j + 1) (by simpa using hj))
    unfold firstR
    rw [if_pos e, ih]
def rulesFault (l : List Rul) : Int := if 12 < l.length then 1 else firstR l
theorem rulesFault_many {l : List Rul} (h : 12 < l.length) : rulesFault l = 1 := if_pos h
theorem rulesFault_bad {l : List Rul} (h : ¬ 12 < l.length) {k : Nat} (hk : k < l.length) (h0 : ∀ j, j < k → globFault (rk l j).pat = 0) (h1 : ¬ globFault (rk l k).pat = 0) : rulesFault l = globFault (rk l k).pat := by
  unfold rulesFault
  rw [if_neg h]
  exact firstR_bad hk h0 h1
theorem rulesFault_ok {l : List Rul} (h : ¬ 12 < l.length) (h0 : ∀ j, j < l.length → globFault (rk l j).pat = 0) : rulesFault l = 0 := by
  unfold rulesFault
  rw [if_neg h]
  exact firstR_ok h0
theorem rulesFault_nil : rulesFault [] = 0 := rfl
theorem firstR_all : ∀ {l : List Rul}, firstR l = 0 → ∀ j, j < l.length → globFault (rk l j).pat = 0
  | [], _, j, h => absurd h (by simp)
  | x :: l, h, j, hj => by
    unfold firstR at h
    split at h
    · rename_i e
      cases j with
      | zero => exact e
      | succ j => exact firstR_all (l := l) h j (by simpa using hj)
    · rename_i e; exact absurd h e
theorem rulesFault_all {l : List Rul} (h : rulesFault l = 0) : l.length ≤ 12 ∧ ∀ j, j < l.length → globFault (rk l j).pat = 0 := by
  unfold rulesFault at h
  split at h
  · cases h
  · exact ⟨by omega, firstR_all h⟩
end Go.Creel
namespace Go.Proofs.YtecmcgedeaemgaaDoor
set_option linter.unusedVariables false
set_option linter.unusedSimpArgs false
open Go.Creel Go.RowKit Go.ChangeShapes
section
variable {H : Type} {enc : TypeId × Value → H} {W : World} {S : DataW H → Prop} {N : Nat}
theorem opens_Rule (hS : Bd H S N) : Opens enc Tryd.prog W S 81 (RulC N) := by
  intro fuel cs x h hx
  have hu := Tryd.underlying81
  have hl := (opens_len hu h).trans (show Tryd.prog.cellsOf 81 = 2 by kernel_rfl)
  obtain ⟨a0, h0⟩ := opens_field hS hu h hx 0 0 1 rfl rfl (by kernel_rfl) (opens_bool Tryd.underlying4)
  obtain ⟨a1, h1⟩ := opens_field hS hu h hx 1 1 1 rfl rfl (by kernel_rfl) (opens_Str hS)
  obtain ⟨c0, c1, rfl⟩ : ∃ c0 c1, cs = [c0, c1] := by
    match cs, hl with
    | [c0, c1], _ => exact ⟨c0, c1, rfl⟩
  simp [StrC, BoolC] at h0 h1
  exact ⟨⟨a0, a1⟩, by rw [h0, h1.1], h1.2⟩
theorem opens_Rules (hS : Bd H S N) : Opens enc Tryd.prog W S 32 (SliceC N 2 (RulC N)) := opens_slice hS Tryd.underlying32 (by kernel_rfl) (by decide) (opens_Rule hS)
end
theorem ruls_below {N : Nat} {w w' : World} {v : Value} {l : List Rul} (h : SliceC N 2 (RulC N) w [v] l) (hb : Below w.heap.size w w') : SliceC N 2 (RulC N) w' [v] l :=
  h.below (fun _ _ h => h) hb
set_option maxRecDepth 100000 in
set_option maxHeartbeats 1000000 in
theorem RulesL_at (b off cap : Nat) (l : List Rul) (w : World) (hM : MaxOk w) (hpos : 0 < l.length) (hle : l.length ≤ cap) (hm : cap ≤ maxLen) (hc : RulsAt w b off l) (ho : ∀ i, i < l.length → (rk l i).pat.size ≤ maxLen) :
    Calls Tryd.prog 21 #[.slice (some ⟨b, off, none⟩) l.length cap] w fun e w' => e = .returned (.int .i64 (rulesFault l)) ∧ Below w.heap.size w w' := by
  unfold maxLen at hm
  have HC := Lib.hid hc
  have HO := Lib.hid ho
  have HM := Lib.hid hM
  clear hM
  clear hc ho
  by_cases hmany : 12 < l.length
  · have HF := Lib.hid (rulesFault_many hmany)
    go_enter Tryd.func21, Tryd.ntmps21
    go_wp2
    go_ret
    exact ⟨ret_i HF.out, Below.refl _ _⟩
  · have HNO := Lib.hid (fun k => rulesFault_bad hmany (k := k))
    have HYES := Lib.hid (rulesFault_ok hmany)
    go_enter Tryd.func21, Tryd.ntmps21
    go_wp2
    go_loopw [4, 5, 11] (fun _ _ i wr => ∃ k : Nat, k ≤ l.length ∧ i = .int .i64 k ∧ Hid (∀ j, j < k → globFault (rk l j).pat = 0) ∧ Hid (Below w.heap.size w wr)) (fun _ _ i _ => l.length - (intOf i).toNat)
    case atStart => exact ⟨0, by omega, rfl, Lib.hid (fun j hj => absurd hj (by omega)), Lib.hid (Below.refl _ _)⟩
    case round =>
      obtain ⟨k, hk, rfl, HD, HB⟩ := hrel
      by_cases hlt : k < l.length
      · obtain ⟨h0, h1⟩ := (HC.out.below HB.out) k hlt
        have HS := Lib.hid (HO.out k hlt)
        have HST := Lib.hid (fun (e : ¬ globFault (rk l k).pat = 0) => HNO.out k hlt HD.out e)
        have HNX := Lib.hid (fun (e : globFault (rk l k).pat = 0) => show ∀ j, j < k + 1 → globFault (rk l j).pat = 0 from fun j hj => by
          by_cases e1 : j = k
          · rw [e1]; exact e
          · exact HD.out j (by omega))
        generalize rk l k = x at *
        have HBB := Lib.hid (HB.out.alloc HB.out.size (.cells #[.bool x.take, .string x.pat] 81))
        go_wp2_with fail
        refine (GlobCheck_any _ _ (HM.out.below HBB.out) HS.out).mono ?_
        rintro e w2 ⟨rfl, hb⟩
        have HB2 := Lib.hid (HBB.out.trans (hb.mono HBB.out.size))
        clear hb
        by_cases hg : globFault x.pat = 0
        · have HN := Lib.hid (HNX.out hg)
          rw [hg]
          clear hg
          go_wp2
          go_roundw
          case rel => exact ⟨k + 1, by omega, by go_num, HN, HB2⟩
          case measure => simp [intOf]; omega
        · have HF := Lib.hid (HST.out hg)
          have hne := hg
          generalize globFault x.pat = q at *
          go_wp2
          go_ret
          exact ⟨ret_i HF.out, HB2.out⟩
      · obtain rfl : k = l.length := by omega
        have HF := Lib.hid (HYES.out HD.out)
        go_wp2
        go_ret
        exact ⟨ret_i HF.out, HB.out⟩
set_option maxRecDepth 100000 in
theorem RulesL_nil (a : Option Addr) (cap : Nat) (w : World) :
    Calls Tryd.prog 21 #[.slice a 0 cap] w fun e w' => e = .returned (.int .i64 0) ∧ w = w' := by
  go_enter Tryd.func21, Tryd.ntmps21
  go_wp2
  go_loop [4, 5, 11] (fun _ _ i => i = .int .i64 0) (fun _ _ i => 0)
  case atStart => rfl
  case round =>
    obtain rfl := hrel
    go_wp2
    go_ret
    exact ⟨rfl, rfl⟩
theorem RulesL_any (v : Value) (l : List Rul) (w : World) (hM : MaxOk w) (h : SliceC maxLen 2 (RulC maxLen) w [v] l) :
    Calls Tryd.prog 21 #[v] w fun e w' => e = .returned (.int .i64 (rulesFault l)) ∧ Below w.heap.size w w' := by
  rcases ruls_cases h with ⟨a, cap, rfl, rfl, _⟩ | ⟨b, off, cap, rfl, h1, h2, h3, _, h4, h5⟩
  · rw [rulesFault_nil]
    exact (RulesL_nil a cap w).mono fun e w' ⟨h1, h2⟩ => ⟨h1, by rw [← h2]; exact Below.refl _ _⟩
  · exact RulesL_at b off cap l w hM h1 h2 h3 h4 h5
set_option maxRecDepth 100000 in
set_option maxHeartbeats 1000000 in
theorem RulesR_at (b off cap : Nat) (l : List Rul) (w : World) (hpos : 0 < l.length) (hle : l.length ≤ cap) (hm : cap ≤ maxLen) (hc : RulsAt w b off l) (ho : ∀ i, i < l.length → (rk l i).pat.size ≤ maxLen) :
    Calls Tryd.prog 23 #[.slice (some ⟨b, off, none⟩) l.length cap] w fun e w' => e = .returned (.int .i64 (rulesFault l)) ∧ Below w.heap.size w w' := by
  unfold maxLen at hm
  have HC := Lib.hid hc
  have HO := Lib.hid ho
  clear hc ho
  by_cases hmany : 12 < l.length
  · have HF := Lib.hid (rulesFault_many hmany)
    go_enter Tryd.func23, Tryd.ntmps23
    go_wp2
    go_ret
    exact ⟨ret_i HF.out, Below.refl _ _⟩
  · have HNO := Lib.hid (fun k => rulesFault_bad hmany (k := k))
    have HYES := Lib.hid (rulesFault_ok hmany)
    go_enter Tryd.func23, Tryd.ntmps23
    go_wp2
    go_loopw [4, 5, 11] (fun _ _ i wr => ∃ k : Nat, k ≤ l.length ∧ i = .int .i64 k ∧ Hid (∀ j, j < k → globFault (rk l j).pat = 0) ∧ Hid (Below w.heap.size w wr)) (fun _ _ i _ => l.length - (intOf i).toNat)
    case atStart => exact ⟨0, by omega, rfl, Lib.hid (fun j hj => absurd hj (by omega)), Lib.hid (Below.refl _ _)⟩
    case round =>
      obtain ⟨k, hk, rfl, HD, HB⟩ := hrel
      by_cases hlt : k < l.length
      · obtain ⟨h0, h1⟩ := (HC.out.below HB.out) k hlt
        have HS := Lib.hid (HO.out k hlt)
        have HST := Lib.hid (fun (e : ¬ globFault (rk l k).pat = 0) => HNO.out k hlt HD.out e)
        have HNX := Lib.hid (fun (e : globFault (rk l k).pat = 0) => show ∀ j, j < k + 1 → globFault (rk l j).pat = 0 from fun j hj => by
          by_cases e1 : j = k
          · rw [e1]; exact e
          · exact HD.out j (by omega))
        generalize rk l k = x at *
        have HBB := Lib.hid (HB.out.alloc HB.out.size (.cells #[.bool x.take, .string x.pat] 81))
        go_wp2_with fail
        refine (GlobFault_any _ _ HS.out).mono ?_
        rintro e w2 ⟨rfl, hb⟩
        have HB2 := Lib.hid (HBB.out.trans (hb.mono HBB.out.size))
        clear hb
        by_cases hg : globFault x.pat = 0
        · have HN := Lib.hid (HNX.out hg)
          rw [hg]
          clear hg
          go_wp2
          go_roundw
          case rel => exact ⟨k + 1, by omega, by go_num, HN, HB2⟩
          case measure => simp [intOf]; omega
        · have HF := Lib.hid (HST.out hg)
          have hne := hg
          generalize globFault x.pat = q at *
          go_wp2
          go_ret
          exact ⟨ret_i HF.out, HB2.out⟩
      · obtain rfl : k = l.length := by omega
        have HF := Lib.hid (HYES.out HD.out)
        go_wp2
        go_ret
        exact ⟨ret_i HF.out, HB.out⟩
set_option maxRecDepth 100000 in
theorem RulesR_nil (a : Option Addr) (cap : Nat) (w : World) :
    Calls Tryd.prog 23 #[.slice a 0 cap] w fun e w' => e = .returned (.int .i64 0) ∧ w = w' := by
  go_enter Tryd.func23, Tryd.ntmps23
  go_wp2
  go_loop [4, 5, 11] (fun _ _ i => i = .int .i64 0) (fun _ _ i => 0)
  case atStart => rfl
  case round =>
    obtain rfl := hrel
    go_wp2
    go_ret
    exact ⟨rfl, rfl⟩
theorem RulesR_any (v : Value) (l : List Rul) (w : World) (h : SliceC maxLen 2 (RulC maxLen) w [v] l) :
    Calls Tryd.prog 23 #[v] w fun e w' => e = .returned (.int .i64 (rulesFault l)) ∧ Below w.heap.size w w' := by
  rcases ruls_cases h with ⟨a, cap, rfl, rfl, _⟩ | ⟨b, off, cap, rfl, h1, h2, h3, _, h4, h5⟩
  · rw [rulesFault_nil]
    exact (RulesR_nil a cap w).mono fun e w' ⟨h1, h2⟩ => ⟨h1, by rw [← h2]; exact Below.refl _ _⟩
  · exact RulesR_at b off cap l w h1 h2 h3 h4 h5
end Go.Proofs.YtecmcgedeaemgaaDoor
