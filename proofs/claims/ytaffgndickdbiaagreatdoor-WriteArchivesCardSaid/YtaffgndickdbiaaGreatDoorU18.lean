/-
  Texts: EntsSpec, EntsFault, Compare, Map.
-/
import Derived.Test.YtaffgndickdbiaaGreatDoorU07
import Derived.StillTailTactics
import Derived.Deep.CutRange
import Derived.MapKept
import Derived.Maps.OwnSet
set_option linter.unusedVariables false
set_option linter.unusedSimpArgs false
set_option linter.unusedSectionVars false
namespace Go.Creel
open Go.RowKit
def metGet (l : List Ent) (k : Nat) (s : ByteArray) : Ent := if entFind (l.take k) s < k then ek l (entFind (l.take k) s) else entZ
theorem metGet_yes {l : List Ent} {k : Nat} {s : ByteArray} (h : entFind (l.take k) s < k) : metGet l k s = ek l (entFind (l.take k) s) := if_pos h
theorem metGet_no {l : List Ent} {k : Nat} {s : ByteArray} (h : ¬ entFind (l.take k) s < k) : metGet l k s = entZ := if_neg h
def OrdOkE (l : List Ent) (i : Nat) : Prop := 0 < i → ordP (pathParts (ek l (i - 1)).path) (pathParts (ek l i).path) = -1
def UpOkE (l : List Ent) (i : Nat) : Prop := (pathUp (ek l i).path).size ≠ 0 → (metGet l i (pathUp (ek l i).path)).kind = 2
def LinkOkE (l : List Ent) (i : Nat) : Prop := (ek l i).kind = 4 → (metGet l i (ek l i).target).kind = 1 ∧ (metGet l i (ek l i).target).mt = (ek l i).mt
open Classical in
noncomputable def stepE (l : List Ent) (i : Nat) : Int :=
  if ¬ entFault (ek l i) = 0 then entFault (ek l i) else if ¬ OrdOkE l i then 6 else if ¬ UpOkE l i then 10 else if ¬ LinkOkE l i then 11 else 0
open Classical in
noncomputable def entsFault (l : List Ent) : Int :=
  if 40 < l.length then 1 else if h : ∃ k, k < l.length ∧ stepE l k ≠ 0 ∧ ∀ j, j < k → stepE l j = 0 then stepE l (Classical.choose h) else 0
theorem entsFault_many {l : List Ent} (h : 40 < l.length) : entsFault l = 1 := by unfold entsFault; rw [if_pos h]
theorem entsFault_at {l : List Ent} {k : Nat} {e : Int} (hl : l.length ≤ 40) (hk : k < l.length) (hz : ∀ j, j < k → stepE l j = 0) (he : stepE l k = e) (hne : e ≠ 0) : entsFault l = e := by
  have hex : ∃ k, k < l.length ∧ stepE l k ≠ 0 ∧ ∀ j, j < k → stepE l j = 0 := ⟨k, hk, by rw [he]; exact hne, hz⟩
  unfold entsFault
  rw [if_neg (by omega), dif_pos hex]
  obtain ⟨h1, h2, h3⟩ := Classical.choose_spec hex
  have : Classical.choose hex = k := by
    rcases Nat.lt_trichotomy (Classical.choose hex) k with h | h | h
    · exact absurd (hz _ h) h2
    · exact h
    · exact absurd (h3 _ h) (by rw [he]; exact hne)
  rw [this, he]
theorem entsFault_ok {l : List Ent} (hl : l.length ≤ 40) (hz : ∀ j, j < l.length → stepE l j = 0) : entsFault l = 0 := by
  unfold entsFault
  rw [if_neg (by omega), dif_neg (by rintro ⟨k, h1, h2, _⟩; exact h2 (hz k h1))]
theorem entsFault_all {l : List Ent} (h : entsFault l = 0) : l.length ≤ 40 ∧ ∀ k, k < l.length → stepE l k = 0 := by
  have hl : l.length ≤ 40 := by
    rcases Nat.lt_or_ge 40 l.length with e | e
    · rw [entsFault_many e] at h; cases h
    · exact e
  refine ⟨hl, ?_⟩
  have key : ∀ k, k ≤ l.length → ∀ j, j < k → stepE l j = 0 := by
    intro k
    induction k with
    | zero => intro _ j hj; omega
    | succ k ih =>
      intro hk j hj
      by_cases e : j = k
      · subst e
        refine Classical.byContradiction fun hne => ?_
        exact hne ((entsFault_at hl (by omega) (ih (by omega)) rfl hne).symm.trans h)
      · exact ih (by omega) j (by omega)
  exact key _ (Nat.le_refl _)
theorem stepE_ent {l : List Ent} {i : Nat} (h : ¬ entFault (ek l i) = 0) : stepE l i = entFault (ek l i) := by unfold stepE; rw [if_pos h]
theorem stepE_ord {l : List Ent} {i : Nat} (h : entFault (ek l i) = 0) (h1 : ¬ OrdOkE l i) : stepE l i = 6 := by unfold stepE; rw [if_neg (by simpa using h), if_pos h1]
theorem stepE_up {l : List Ent} {i : Nat} (h : entFault (ek l i) = 0) (h1 : OrdOkE l i) (h2 : ¬ UpOkE l i) : stepE l i = 10 := by unfold stepE; rw [if_neg (by simpa using h), if_neg (by simpa using h1), if_pos h2]
theorem stepE_link {l : List Ent} {i : Nat} (h : entFault (ek l i) = 0) (h1 : OrdOkE l i) (h2 : UpOkE l i) (h3 : ¬ LinkOkE l i) : stepE l i = 11 := by unfold stepE; rw [if_neg (by simpa using h), if_neg (by simpa using h1), if_neg (by simpa using h2), if_pos h3]
theorem stepE_ok {l : List Ent} {i : Nat} (h : entFault (ek l i) = 0) (h1 : OrdOkE l i) (h2 : UpOkE l i) (h3 : LinkOkE l i) : stepE l i = 0 := by unfold stepE; rw [if_neg (by simpa using h), if_neg (by simpa using h1), if_neg (by simpa using h2), if_neg (by simpa using h3)]
theorem stepE_zero {l : List Ent} {i : Nat} (h : stepE l i = 0) : entFault (ek l i) = 0 ∧ OrdOkE l i := by
  have h0 : entFault (ek l i) = 0 := Classical.byContradiction fun e => e ((stepE_ent e).symm.trans h)
  refine ⟨h0, Classical.byContradiction fun e => ?_⟩
  rw [stepE_ord h0 e] at h
  cases h
theorem entFault_path {x : Ent} (h : entFault x = 0) : x.path.size ≤ 400 := by
  unfold entFault entFaultN at h
  have hp : pathFault x.path = 0 := Classical.byContradiction fun e => by rw [if_pos e] at h; exact e h
  refine Classical.byContradiction fun e => ?_
  have := pathFault_size (s := x.path) (.inr (by omega))
  rw [hp] at this
  cases this
theorem ordP_range (X Y : List ByteArray) : ordP X Y = -1 ∨ ordP X Y = 0 ∨ ordP X Y = 1 := by
  induction X generalizing Y with
  | nil => cases Y <;> simp [ordP]
  | cons x X ih =>
    cases Y with
    | nil => simp [ordP]
    | cons y Y =>
      unfold ordP
      split
      · exact ih Y
      · rcases cmpS_cases x y with ⟨_, h⟩ | ⟨_, _, h⟩ | ⟨_, _, h⟩ <;> simp [h]
open Classical in
noncomputable def ordBadE (l : List Ent) (k : Nat) : Bool := decide (¬ OrdOkE l k)
theorem ordBadE_t {l : List Ent} {k : Nat} (h : ¬ OrdOkE l k) : ordBadE l k = true := by unfold ordBadE; simp [h]
theorem ordBadE_f {l : List Ent} {k : Nat} (h : OrdOkE l k) : ordBadE l k = false := by unfold ordBadE; simp [h]
open Classical in
noncomputable def upOkE (l : List Ent) (k : Nat) : Bool := decide (UpOkE l k)
theorem upOkE_t {l : List Ent} {k : Nat} (h : UpOkE l k) : upOkE l k = true := by unfold upOkE; simp [h]
theorem upOkE_f {l : List Ent} {k : Nat} (h : ¬ UpOkE l k) : upOkE l k = false := by unfold upOkE; simp [h]
open Classical in
noncomputable def linkOkE (l : List Ent) (k : Nat) : Bool := decide (LinkOkE l k)
theorem linkOkE_t {l : List Ent} {k : Nat} (h : LinkOkE l k) : linkOkE l k = true := by unfold linkOkE; simp [h]
theorem linkOkE_f {l : List Ent} {k : Nat} (h : ¬ LinkOkE l k) : linkOkE l k = false := by unfold linkOkE; simp [h]
theorem ordE_zero (l : List Ent) : ordBadE l 0 = false := ordBadE_f (fun h => absurd h (by omega))
theorem ordE_dec (l : List Ent) (q : Nat) : decide (0 ≤ ordP (pathParts (ek l q).path) (pathParts (ek l (q + 1)).path)) = ordBadE l (q + 1) := by
  by_cases h : ordP (pathParts (ek l q).path) (pathParts (ek l (q + 1)).path) = -1
  · rw [ordBadE_f (fun _ => by simpa using h), h]; rfl
  · rw [ordBadE_t (fun e => h (by simpa using e (by omega)))]
    rcases ordP_range (pathParts (ek l q).path) (pathParts (ek l (q + 1)).path) with e | e | e
    · exact absurd e h
    · rw [e]; rfl
    · rw [e]; rfl
theorem zsE_next {l : List Ent} {k : Nat} (hz : ∀ j, j < k → stepE l j = 0) (h : stepE l k = 0) : ∀ j, j < k + 1 → stepE l j = 0 := fun j hj => by
  by_cases e : j = k
  · rw [e]; exact h
  · exact hz j (by omega)
theorem meta_sameE {x y : Meta} (h0 : x.mode = y.mode) (h1 : x.uid = y.uid) (h2 : x.gid = y.gid) (h3 : x.user.toList = y.user.toList) (h4 : x.group.toList = y.group.toList) (h5 : x.second = y.second) (h6 : x.nano = y.nano) : x = y := by
  obtain ⟨a, b, c, d, e, f, g⟩ := x
  obtain ⟨a', b', c', d', e', f', g'⟩ := y
  simp only at *
  rw [h0, h1, h2, toList_inj h3, toList_inj h4, h5, h6]
theorem meta_casesE {x y : Meta} (h : x ≠ y) : (¬ x.mode = y.mode) ∨ (x.mode = y.mode ∧ ¬ x.uid = y.uid) ∨ (x.mode = y.mode ∧ x.uid = y.uid ∧ ¬ x.gid = y.gid) ∨ (x.mode = y.mode ∧ x.uid = y.uid ∧ x.gid = y.gid ∧ ¬ x.user.toList = y.user.toList) ∨
    (x.mode = y.mode ∧ x.uid = y.uid ∧ x.gid = y.gid ∧ x.user.toList = y.user.toList ∧ ¬ x.group.toList = y.group.toList) ∨ (x.mode = y.mode ∧ x.uid = y.uid ∧ x.gid = y.gid ∧ x.user.toList = y.user.toList ∧ x.group.toList = y.group.toList ∧ ¬ x.second = y.second) ∨
    (x.mode = y.mode ∧ x.uid = y.uid ∧ x.gid = y.gid ∧ x.user.toList = y.user.toList ∧ x.group.toList = y.group.toList ∧ x.second = y.second ∧ ¬ x.nano = y.nano) := by
  by_cases h0 : x.mode = y.mode
  · by_cases h1 : x.uid = y.uid
    · by_cases h2 : x.gid = y.gid
      · by_cases h3 : x.user.toList = y.user.toList
        · by_cases h4 : x.group.toList = y.group.toList
          · by_cases h5 : x.second = y.second
            · by_cases h6 : x.nano = y.nano
              · exact absurd (meta_sameE h0 h1 h2 h3 h4 h5 h6) h
              · simp [h0, h1, h2, h3, h4, h5, h6]
            · simp [h0, h1, h2, h3, h4, h5]
          · simp [h0, h1, h2, h3, h4]
        · simp [h0, h1, h2, h3]
      · simp [h0, h1, h2]
    · simp [h0, h1]
  · simp [h0]
end Go.Creel
namespace Go.Proofs.YtaffgndickdbiaaGreatDoor
open Go.Creel Go.RowKit
theorem entF_call (x : Ent) (w : World) (h : x.Ok maxLen w) : Calls Tryz.prog 101 #[x.val] w fun e w' => e = .returned (.int .i64 (entFault x)) ∧ Below w.heap.size w w' :=
  EntryFault_any x w h.path h.target h.mt (by obtain ⟨_, _, _, _, _, h, _⟩ := h.data; exact h) h.kind (Nat.le_refl _)
set_option maxRecDepth 100000 in
set_option maxHeartbeats 4000000 in
theorem EntsFault_at (b off cap : Nat) (l : List Ent) (w : World) (hpos : 0 < l.length) (hle : l.length ≤ cap) (hm : cap ≤ maxLen) (hc : EntsAt w b off l) (ho : ∀ i, i < l.length → (ek l i).Ok maxLen w) :
    Calls Tryz.prog 48 #[.slice (some ⟨b, off, none⟩) l.length cap] w fun e w' => e = .returned (.int .i64 (entsFault l)) ∧ Below w.heap.size w w' := by
  have hm' := hm
  unfold maxLen at hm
  have HC := Lib.hid hc
  have HO := Lib.hid ho
  have HCAP := Lib.hid hm'
  clear hc ho hm'
  by_cases hmany : 40 < l.length
  · have HF := Lib.hid (entsFault_many hmany)
    go_enter Tryz.func48, Tryz.ntmps48
    go_wp2
    go_ret
    exact ⟨ret_i HF.out, Below.refl _ _⟩
  have hfew : l.length ≤ 40 := by omega
  clear hmany
  go_enter Tryz.func48, Tryz.ntmps48
  go_wp2
  go_loopw [3, 4, 5, 6, 7, 8, 9, 15] (fun _ _ _ _ _ _ _ i wr => ∃ k : Nat, k ≤ l.length ∧ i = .int .i64 k ∧ Hid (∀ j, j < k → stepE l j = 0) ∧ Hid (Below w.heap.size w wr)) (fun _ _ _ _ _ _ _ i _ => l.length - (intOf i).toNat)
  case atStart => exact ⟨0, by omega, rfl, Lib.hid fun j hj => absurd hj (by omega), Lib.hid (Below.refl _ _)⟩
  case round =>
    obtain ⟨k, hk, rfl, HZ, HB⟩ := hrel
    by_cases hlt : k < l.length
    · obtain ⟨h0, h1, h2, h3, h4, h5, h6, h7, h8, h9, h10⟩ := (HC.out.below HB.out) k hlt
      have HX := Lib.hid ((HO.out k hlt).below HB.out)
      have HAT := Lib.hid (fun e => entsFault_at (e := e) hfew hlt HZ.out)
      by_cases hA : entFault (ek l k) = 0
      · have HA := Lib.hid hA
        clear hA
        go_wp2_with fail
        have HBX := Lib.hid (entAt_box wr (ek l k) 26)
        refine (entF_call _ _ (HX.out.below ((Below.refl _ _).alloc (Nat.le_refl _) _))).mono ?_
        rintro e w1 ⟨rfl, hb⟩
        have HB1 := Lib.hid ((HB.out.alloc HB.out.size _).trans (hb.mono (by simp; exact Nat.le_succ_of_le HB.out.size)))
        have HBX1 := Lib.hid (HBX.out.below hb)
        rw [HA.out]
        clear hb h0 h1 h2 h3 h4 h5 h6 h7 h8 h9 h10
        generalize wr.heap.size = bx at *
        obtain ⟨g0, g1, g2, g3, g4, g5, g6, g7, g8, g9, g10⟩ := HBX1.out.zero
        have HPZ := Lib.hid (fun (j : Nat) (hj : j ≤ k) => show (ek l j).path.size ≤ 1048576 from Nat.le_trans (entFault_path (by
          rcases Nat.lt_or_ge j k with h | h
          · exact (stepE_zero (HZ.out j h)).1
          · rw [show j = k by omega]; exact HA.out)) (by decide))
        go_upto_region 9 with fail
        go_cut [15, 38] from 15 to 97 (fun c u wc => c = .int .i64 k ∧ u = .bool (ordBadE l k) ∧ Hid (Below w1.heap.size w1 wc))
        case first =>
          by_cases hk0 : k = 0
          · subst hk0
            go_wp2
            go_quiet (fail)
            go_wp2_with fail
            go_meet
            case rel => exact ⟨rfl, congrArg Value.bool (ordE_zero l).symm, Lib.hid (below_draws _ _ _)⟩
          · obtain ⟨q, rfl⟩ : ∃ q, k = q + 1 := ⟨k - 1, by omega⟩
            obtain ⟨p0, _⟩ := (HC.out.below HB1.out) q (by omega)
            have hwq : IntKind.i64.wrap (q : Int) = (q : Int) := by rw [IntKind.wrap_i64]; omega
            have hql : (q : Int) < (l.length : Int) := by omega
            go_wp2
            go_still_tail 11, (by kernel_rfl)
            go_wp2_with fail
            refine (PathOrder_any _ _ _ (HPZ.out q (by omega)) (HPZ.out (q + 1) (by omega))).mono ?_
            rintro e wc ⟨rfl, hb⟩
            have HBC := Lib.hid ((Below.refl w1.heap.size w1).drew.trans hb)
            clear hb
            go_wp2_with fail
            go_meet
            case rel => exact ⟨rfl, congrArg Value.bool (ordE_dec _ _), HBC⟩
        case rest =>
          obtain ⟨rfl, rfl, HBC⟩ := hcut
          have HB2 := Lib.hid (HB1.out.trans (HBC.out.mono HB1.out.size))
          have HBX2 := Lib.hid (HBX1.out.below HBC.out)
          clear g0 g1 g2 g3 g4 g5 g6 g7 g8 g9 g10
          obtain ⟨g0, g1, g2, g3, g4, g5, g6, g7, g8, g9, g10⟩ := HBX2.out.zero
          by_cases hO : OrdOkE l k
          · have HOK := Lib.hid hO
            rw [ordBadE_f hO]
            clear hO
            go_wp2_with fail
            refine (PathSplit_any _ _ (Nat.le_trans (HPZ.out k (Nat.le_refl _)) (by decide))).mono ?_
            rintro e w2 ⟨rfl, hb⟩
            have HB3 := Lib.hid (HB2.out.trans (hb.mono HB2.out.size))
            have HBX3 := Lib.hid (HBX2.out.below hb)
            clear hb g0 g1 g2 g3 g4 g5 g6 g7 g8 g9 g10
            obtain ⟨g0, g1, g2, g3, g4, g5, g6, g7, g8, g9, g10⟩ := HBX3.out.zero
            have htk : (l.take k).length = k := by rw [List.length_take]; omega
            have hfind := fun (n : Nat) (s : ByteArray) => EntryAt_at b off cap (l.take k) s (w2.drewN n) (by omega) HCAP.out (((HC.out.below HB3.out).below (below_draws _ _ n)).take k)
            rw [htk] at hfind
            have HFI := Lib.hid hfind
            have htl := entFind_le (l.take k) (pathUp (ek l k).path)
            have htl2 := entFind_le (l.take k) (ek l k).target
            rw [htk] at htl htl2
            have hkc : k ≤ cap := by omega
            have HUP := Lib.hid (show UpOkE l k ↔ ((pathUp (ek l k).path).size ≠ 0 → (metGet l k (pathUp (ek l k).path)).kind = 2) from Iff.rfl)
            have HF0 := Lib.hid (HFI.out 0 (pathUp (ek l k).path))
            have HMY := Lib.hid (fun h => metGet_yes (l := l) (k := k) (s := pathUp (ek l k).path) h)
            have HMN := Lib.hid (fun h => metGet_no (l := l) (k := k) (s := pathUp (ek l k).path) h)
            clear hfind htk
            generalize hn : entFind (l.take k) (pathUp (ek l k).path) = n at HF0 HMY HMN htl
            generalize hup : pathUp (ek l k).path = up at HF0 HUP HMY HMN
            clear hn hup
            go_upto_region 13 with (first | (go_at_call 63; refine HF0.out.mono ?_; rintro e w' ⟨rfl, rfl⟩))
            go_cut [15, 64] from 15 to 97 (fun c u wc2 => c = .int .i64 k ∧ u = .bool (!upOkE l k) ∧ wc2 = w2)
            case first =>
              by_cases h0 : up.size = 0
              · have HU := Lib.hid (upOkE_t (HUP.out.2 fun e => absurd h0 e))
                have he := empty_t h0
                clear h0
                go_wp2_with fail
                go_meet
                case rel => exact ⟨rfl, by rw [HU.out]; rfl, rfl⟩
              · have he := empty_f h0
                by_cases hnk : n = k
                · have HU := Lib.hid (upOkE_f (fun e => by have := HUP.out.1 e h0; rw [HMN.out (by omega)] at this; cases this))
                  clear h0
                  subst hnk
                  go_wp2_with fail
                  go_meet
                  case rel => exact ⟨rfl, by rw [HU.out]; rfl, rfl⟩
                · obtain ⟨_, q1, _⟩ := (HC.out.below HB3.out) n (by omega)
                  have hd : ((n : Int) == (k : Int)) = false := by rw [beq_eq_false_iff_ne]; omega
                  by_cases hkd : (ek l n).kind = 2
                  · have HU := Lib.hid (upOkE_t (HUP.out.2 fun e => by rw [HMY.out (by omega)]; exact hkd))
                    have hd2 : ((ek l n).kind != 2) = false := by rw [hkd]; rfl
                    go_wp2_with fail
                    go_meet
                    case rel => exact ⟨rfl, by rw [HU.out]; rfl, rfl⟩
                  · have HU := Lib.hid (upOkE_f (fun e => by have := HUP.out.1 e h0; rw [HMY.out (by omega)] at this; exact hkd this))
                    have hd2 : ((ek l n).kind != 2) = true := by rw [bne_iff_ne]; exact hkd
                    go_wp2_with fail
                    go_meet
                    case rel => exact ⟨rfl, by rw [HU.out]; rfl, rfl⟩
            case rest =>
              obtain ⟨rfl, rfl, rfl⟩ := hcut
              clear HF0 HUP HMY HMN htl
              by_cases hU : UpOkE l k
              · rw [upOkE_t hU]
                have HUO := Lib.hid hU
                clear hU
                have HLK := Lib.hid (show LinkOkE l k ↔ ((ek l k).kind = 4 → (metGet l k (ek l k).target).kind = 1 ∧ (metGet l k (ek l k).target).mt = (ek l k).mt) from Iff.rfl)
                have HMY := Lib.hid (fun h => metGet_yes (l := l) (k := k) (s := (ek l k).target) h)
                have HMN := Lib.hid (fun h => metGet_no (l := l) (k := k) (s := (ek l k).target) h)
                have HF1 := Lib.hid (fun n => HFI.out n (ek l k).target)
                generalize hn : entFind (l.take k) (ek l k).target = n at HF1 HMY HMN htl2
                clear hn
                go_wp2
                go_quiet ((first | (go_at_call 63; exact quiet_same (HF1.out _))))
                go_upto_region 16 with fail
                go_cut [15, 96] from 15 to 97 (fun c u wc2 => c = .int .i64 k ∧ u = .bool (!linkOkE l k) ∧ Hid (Below wc.heap.size wc wc2))
                case first =>
                  by_cases hk4 : (ek l k).kind = 4
                  · have hd4 : ((ek l k).kind == 4) = true := by rw [hk4]; rfl
                    by_cases hnk : n = k
                    · have HU := Lib.hid (linkOkE_f (fun e => by have := (HLK.out.1 e hk4).1; rw [HMN.out (by omega)] at this; cases this))
                      clear hk4
                      subst hnk
                      go_wp2
                      go_quiet (fail)
                      go_wp2_with fail
                      go_meet
                      case rel => exact ⟨rfl, by rw [HU.out]; rfl, Lib.hid ((below_draws _ _ _).trans (below_draws _ _ _))⟩
                    · obtain ⟨q0, q1, q2, q3, q4, q5, q6, q7, q8, q9, q10⟩ := (HC.out.below HB3.out) n (by omega)
                      have hd : ((n : Int) == (k : Int)) = false := by rw [beq_eq_false_iff_ne]; omega
                      have hnl : (n : Int) < (l.length : Int) := by omega
                      by_cases hkd : (ek l n).kind = 1
                      · have hd2 : ((ek l n).kind != 1) = false := by rw [hkd]; rfl
                        by_cases hmt : (ek l n).mt = (ek l k).mt
                        · have HU := Lib.hid (linkOkE_t (HLK.out.2 fun _ => by rw [HMY.out (by omega)]; exact ⟨hkd, hmt⟩))
                          have e0 := congrArg Meta.mode hmt
                          have e1 := congrArg Meta.uid hmt
                          have e2 := congrArg Meta.gid hmt
                          have e3 : (ek l n).mt.user.toList = (ek l k).mt.user.toList := by rw [hmt]
                          have e4 : (ek l n).mt.group.toList = (ek l k).mt.group.toList := by rw [hmt]
                          have e5 := congrArg Meta.second hmt
                          have e6 := congrArg Meta.nano hmt
                          clear hmt hk4 hkd
                          go_wp2
                          go_quiet (fail)
                          go_wp2_with fail
                          go_meet
                          case rel => exact ⟨rfl, by rw [HU.out]; rfl, Lib.hid ((below_draws _ _ _).trans (below_draws _ _ _))⟩
                        · have HU := Lib.hid (linkOkE_f (fun e => by have := (HLK.out.1 e hk4).2; rw [HMY.out (by omega)] at this; exact hmt this))
                          clear hk4 hkd
                          rcases meta_casesE hmt with e0 | ⟨e0, e1⟩ | ⟨e0, e1, e2⟩ | ⟨e0, e1, e2, e3⟩ | ⟨e0, e1, e2, e3, e4⟩ | ⟨e0, e1, e2, e3, e4, e5⟩ | ⟨e0, e1, e2, e3, e4, e5, e6⟩
                          all_goals clear hmt
                          all_goals go_wp2
                          all_goals go_quiet (fail)
                          all_goals go_wp2_with fail
                          all_goals go_meet
                          all_goals exact ⟨rfl, by rw [HU.out]; rfl, Lib.hid ((below_draws _ _ _).trans (below_draws _ _ _))⟩
                      · have HU := Lib.hid (linkOkE_f (fun e => by have := (HLK.out.1 e hk4).1; rw [HMY.out (by omega)] at this; exact hkd this))
                        have hd2 : ((ek l n).kind != 1) = true := by rw [bne_iff_ne]; exact hkd
                        clear hk4 hkd
                        go_wp2
                        go_quiet (fail)
                        go_wp2_with fail
                        go_meet
                        case rel => exact ⟨rfl, by rw [HU.out]; rfl, Lib.hid ((below_draws _ _ _).trans (below_draws _ _ _))⟩
                  · have HU := Lib.hid (linkOkE_t (HLK.out.2 fun e => absurd e hk4))
                    have hd4 : ((ek l k).kind == 4) = false := by rw [beq_eq_false_iff_ne]; exact hk4
                    clear hk4
                    go_wp2
                    go_quiet (fail)
                    go_wp2_with fail
                    go_meet
                    case rel => exact ⟨rfl, by rw [HU.out]; rfl, Lib.hid ((below_draws _ _ _).trans (below_draws _ _ _))⟩
                case rest =>
                  obtain ⟨rfl, rfl, HBD⟩ := hcut
                  have HB5 := Lib.hid (HB3.out.trans (HBD.out.mono HB3.out.size))
                  by_cases hL : LinkOkE l k
                  · rw [linkOkE_t hL]
                    have HS := Lib.hid (stepE_ok HA.out HOK.out HUO.out hL)
                    clear hL
                    go_wp2
                    go_roundw
                    case rel => exact ⟨k + 1, by omega, by go_num, Lib.hid (zsE_next HZ.out HS.out), HB5⟩
                    case measure => simp [intOf]; omega
                  · rw [linkOkE_f hL]
                    have HF := Lib.hid (HAT.out 11 (stepE_link HA.out HOK.out HUO.out hL) (by decide))
                    clear hL
                    go_wp2
                    go_ret
                    exact ⟨ret_i HF.out, HB5.out⟩
              · have HF := Lib.hid (HAT.out 10 (stepE_up HA.out HOK.out hU) (by decide))
                rw [upOkE_f hU]
                clear hU
                go_wp2
                go_ret
                exact ⟨ret_i HF.out, HB3.out⟩
          · have HF := Lib.hid (HAT.out 6 (stepE_ord HA.out hO) (by decide))
            rw [ordBadE_t hO]
            clear hO
            go_wp2
            go_ret
            exact ⟨ret_i HF.out, HB2.out⟩
      · have HF := Lib.hid (HAT.out _ (stepE_ent hA) hA)
        go_wp2_with fail
        refine (entF_call _ _ (HX.out.below ((Below.refl _ _).alloc (Nat.le_refl _) _))).mono ?_
        rintro e w1 ⟨rfl, hb⟩
        have HB1 := Lib.hid ((HB.out.alloc HB.out.size _).trans (hb.mono (by simp; exact Nat.le_succ_of_le HB.out.size)))
        clear hb h0 h1 h2 h3 h4 h5 h6 h7 h8 h9 h10
        generalize entFault (ek l k) = q at *
        go_wp2
        go_ret
        exact ⟨ret_i HF.out, HB1.out⟩
    · obtain rfl : k = l.length := by omega
      have HF := Lib.hid (entsFault_ok hfew HZ.out)
      go_wp2
      go_ret
      exact ⟨ret_i HF.out, HB.out⟩
set_option maxRecDepth 100000 in
theorem EntsFault_nil (a : Option Addr) (cap : Nat) (w : World) :
    Calls Tryz.prog 48 #[.slice a 0 cap] w fun e w' => e = .returned (.int .i64 0) ∧ w = w' := by
  go_enter Tryz.func48, Tryz.ntmps48
  go_wp2
  go_loop [3, 4, 5, 6, 7, 8, 9, 15] (fun _ _ _ _ _ _ _ i => i = .int .i64 0) (fun _ _ _ _ _ _ _ _ => 0)
  case atStart => rfl
  case round =>
    obtain rfl := hrel
    go_wp2
    go_ret
    exact ⟨rfl, rfl⟩
open Go.Creel Go.RowKit
set_option maxRecDepth 100000 in
theorem Compare_any (a b : ByteArray) (w : World) (hM : MaxOk w) (ha : a.size ≤ 1048576) (hb : b.size ≤ 1048576) :
    Calls Tryz.prog 113 #[.string a, .string b] w fun e w' => e = .returned (.int .i64 (ordP (pathParts a) (pathParts b))) ∧ Below w.heap.size w w' := by
  have HX := Lib.hid (parts_len' ha)
  have HY := Lib.hid (parts_len' hb)
  have HM := Lib.hid hM
  clear hM
  go_enter Tryz.func113, Tryz.ntmps113
  go_wp2_with fail
  refine (Parts_any _ _ HM.out (by omega)).mono ?_
  rintro e w1 ⟨v1, rfl, ho, hb1⟩
  have HB1 := Lib.hid hb1
  have HO1 := Lib.hid ho
  clear hb1 ho
  go_wp2_with fail
  refine (Parts_any _ _ (HM.out.below HB1.out) (by omega)).mono ?_
  rintro e w2 ⟨v2, rfl, ho, hb2⟩
  have HB2 := Lib.hid (HB1.out.trans (hb2.mono HB1.out.size))
  have HO2 := Lib.hid (HO1.out.below hb2)
  have HP2 := Lib.hid ho
  clear hb2 ho
  go_wp2_with fail
  refine (cmpTexts_any _ _ _ _ _ _ _ HX.out HY.out HO2.out HP2.out).mono ?_
  rintro e w3 ⟨rfl, hb3⟩
  have HB3 := Lib.hid (HB2.out.trans (hb3.mono HB2.out.size))
  clear hb3
  go_wp2
  go_ret
  exact ⟨rfl, HB3.out⟩
end Go.Proofs.YtaffgndickdbiaaGreatDoor
namespace Go.Creel
open Go.RowKit
structure KeyOn {κ : Type} [DecidableEq κ] (kind : TypeDesc) (mk : κ → Value) : Prop where
  same : ∀ a b, Instr.sameNow kind (mk a) (mk b) = some (decide (a = b))
  bits : ∀ a, Instr.sameBits 10000 (mk a) (mk a) = true
  check : ∀ {P : Program} {t : TypeId} (w : World) (a : κ), P.underlying t = some kind → (Instr.checkKey false 10000 t (mk a)).run P w = .ok () w
  checkE : ∀ {P : Program} {t : TypeId} (w : World) (a : κ), P.underlying t = some kind → (Instr.checkKey true 10000 t (mk a)).run P w = .ok () w
theorem checkKey_succ (b : Bool) (t : TypeId) (v : Value) : Instr.checkKey b 10000 t v = Instr.checkKey b (9999 + 1) t v := rfl
theorem bab (a b : ByteArray) : (a == b) = decide (a = b) := by
  have h : (a == b) = (a.data == b.data) := rfl
  rw [h, Bool.eq_iff_iff, beq_iff_eq, decide_eq_true_iff]
  exact ⟨fun h => ByteArray.ext h, fun h => by rw [h]⟩
theorem keyOn_str : KeyOn .string (fun s : ByteArray => Value.string s) where
  same a b := by simp [Instr.sameNow, bab]
  bits a := by simp [Instr.sameBits, bab]
  check w a h := by rw [checkKey_succ]; unfold Instr.checkKey; simp [run_underlying h, Result.andThen]
  checkE w a h := by rw [checkKey_succ]; unfold Instr.checkKey; simp [run_underlying h, Result.andThen]
section
variable {κ : Type} [DecidableEq κ]
def assoc (k : κ) : List (κ × Value) → Option Value
  | [] => none
  | p :: r => if k = p.1 then some p.2 else assoc k r
def assocPut (k : κ) (v : Value) : List (κ × Value) → List (κ × Value)
  | [] => [(k, v)]
  | p :: r => if k = p.1 then (k, v) :: r else p :: assocPut k v r
theorem assoc_put (k k' : κ) (v : Value) : ∀ l, assoc k' (assocPut k v l) = if k' = k then some v else assoc k' l
  | [] => by simp [assocPut, assoc]
  | p :: r => by
    have ih := assoc_put k k' v r
    unfold assocPut
    by_cases h : k = p.1
    · rw [if_pos h]
      unfold assoc
      by_cases h2 : k' = k
      · simp [h2]
      · rw [if_neg h2, if_neg h2, if_neg (by rw [← h]; exact h2)]
    · rw [if_neg h]
      unfold assoc
      by_cases h2 : k' = p.1
      · rw [if_pos h2, if_pos h2, if_neg (by rw [h2]; exact fun e => h e.symm)]
      · rw [if_neg h2, if_neg h2, ih]
def MapIs (mk : κ → Value) (w : World) (b : Nat) (l : List (κ × Value)) : Prop :=
  ∃ es clock, w.heap[b]? = some (.map es clock) ∧ es.toList.map (fun e => (e.key, e.val)) = l.map (fun p => (mk p.1, p.2))
theorem MapIs.lt {mk : κ → Value} {w : World} {b : Nat} {l : List (κ × Value)} (h : MapIs mk w b l) : b < w.heap.size := by
  obtain ⟨es, clock, hb, _⟩ := h
  exact (Array.getElem?_eq_some_iff.1 hb).1
theorem MapIs.below {mk : κ → Value} {w w' : World} {b : Nat} {l : List (κ × Value)} {B : Nat} (h : MapIs mk w b l) (hb : Below B w w') (hB : b < B) : MapIs mk w' b l := by
  obtain ⟨es, clock, h1, h2⟩ := h
  exact ⟨es, clock, (hb.block b hB).trans h1, h2⟩
theorem MapIs.made (mk : κ → Value) (w : World) : MapIs mk (w.alloc (.map #[] 0)) w.heap.size ([] : List (κ × Value)) := ⟨#[], 0, heap_alloc_new w _, rfl⟩
theorem findNow_spec {kind : TypeDesc} {mk : κ → Value} (K : KeyOn kind mk) (k : κ) (u : Value) : ∀ (es : List MapEntry) (l : List (κ × Value)) (i : Nat), es.map (fun e => (e.key, e.val)) = l.map (fun p => (mk p.1, p.2)) →
    (assoc k l = none ∧ Instr.findNow kind (mk k) es i = some none ∧ assocPut k u l = l ++ [(k, u)]) ∨
    ∃ j v e, assoc k l = some v ∧ Instr.findNow kind (mk k) es i = some (some (i + j, v)) ∧ es[j]? = some e ∧ e.key = mk k ∧ (es.modify j (fun e => { e with key := mk k, val := u })).map (fun e => (e.key, e.val)) = (assocPut k u l).map (fun p => (mk p.1, p.2))
  | [], [], _, _ => .inl ⟨rfl, rfl, rfl⟩
  | [], p :: l, _, h => by simp at h
  | e :: es, [], _, h => by simp at h
  | e :: es, p :: l, i, h => by
    simp only [List.map_cons, List.cons.injEq, Prod.mk.injEq] at h
    obtain ⟨⟨hk, hv⟩, hr⟩ := h
    have hs := K.same k p.1
    by_cases hkp : k = p.1
    · right
      refine ⟨0, p.2, e, by simp [assoc, hkp], ?_, rfl, by rw [hk, hkp], ?_⟩
      · unfold Instr.findNow
        rw [hk, hs, hkp]
        simp [hv]
      · simp [assocPut, hkp, hr]
    · have hf : Instr.findNow kind (mk k) (e :: es) i = Instr.findNow kind (mk k) es (i + 1) := by
        conv => lhs; unfold Instr.findNow
        rw [hk, hs]
        simp [hkp]
      rcases findNow_spec K k u es l (i + 1) hr with ⟨h1, h2, h3⟩ | ⟨j, v, e', h1, h2, h3, h4, h5⟩
      · left
        exact ⟨by simp [assoc, hkp, h1], by rw [hf, h2], by simp [assocPut, hkp, h3]⟩
      · right
        refine ⟨j + 1, v, e', by simp [assoc, hkp, h1], by rw [hf, h2]; congr 3; omega, by simpa using h3, h4, ?_⟩
        simp [assocPut, hkp, h5, hk, hv]
variable {P : Program} {w : World} {mk : κ → Value} {kind : TypeDesc} {b : Nat} {l : List (κ × Value)}
theorem MapIs.checked (K : KeyOn kind mk) {k : TypeId} (hk : P.underlying k = some kind) (c : Bool) (a : κ) : (Instr.checkKey c 10000 k (mk a)).run P w = .ok () w := by
  cases c
  · exact K.check w a hk
  · exact K.checkE w a hk
theorem MapIs.look_some (h : MapIs mk w b l) (K : KeyOn kind mk) {t k e : TypeId} (ht : P.underlying t = some (.map k e)) (hk : P.underlying k = some kind) {a : κ} {v : Value} (ha : assoc a l = some v) (ok : Bool) :
    (Instr.lookup t (.map (some b)) (mk a) ok).run P w = .ok (if ok then .tuple #[v, .bool true] else v) w := by
  obtain ⟨es, clock, hb, hes⟩ := h
  rcases findNow_spec K a undef es.toList l 0 hes with ⟨h1, _⟩ | ⟨j, v', e', h1, h2, _⟩
  · rw [h1] at ha; cases ha
  · rw [h1] at ha
    cases ha
    unfold Instr.lookup Instr.findKey
    simp only [Sem.run_bind, run_underlying ht, Result.andThen_ok, MapKept.run_getObj_map hb, MapIs.checked K hk, run_underlying hk, h2, Sem.run_pure]
theorem MapIs.look_none (h : MapIs mk w b l) (K : KeyOn kind mk) {t k e : TypeId} (ht : P.underlying t = some (.map k e)) (hk : P.underlying k = some kind) {a : κ} {z : Value} (ha : assoc a l = none) (hz : (zeroValue e).run P w = .ok z w) (ok : Bool) :
    (Instr.lookup t (.map (some b)) (mk a) ok).run P w = .ok (if ok then .tuple #[z, .bool false] else z) w := by
  obtain ⟨es, clock, hb, hes⟩ := h
  rcases findNow_spec K a undef es.toList l 0 hes with ⟨h1, h2, _⟩ | ⟨j, v', e', h1, h2, _⟩
  · unfold Instr.lookup Instr.findKey
    simp only [Sem.run_bind, run_underlying ht, Result.andThen_ok, MapKept.run_getObj_map hb, MapIs.checked K hk, run_underlying hk, h2, Sem.run_pure, hz]
  · rw [h1] at ha; cases ha
theorem MapIs.put (h : MapIs mk w b l) (K : KeyOn kind mk) {t k e : TypeId} (ht : P.underlying t = some (.map k e)) (hk : P.underlying k = some kind) (a : κ) (u : Value) :
    ∃ w', (Instr.mapUpdate t (.map (some b)) (mk a) u).run P w = .ok () w' ∧ MapIs mk w' b (assocPut a u l) ∧ w.grownBy w' (some b) := by
  obtain ⟨es, clock, hb, hes⟩ := h
  have hlt : b < w.heap.size := (Array.getElem?_eq_some_iff.1 hb).1
  rcases findNow_spec K a u es.toList l 0 hes with ⟨h1, h2, h3⟩ | ⟨j, v', e', h1, h2, h3, h4, h5⟩
  · refine ⟨_, by
      unfold Instr.mapUpdate Instr.findKey
      simp only [Sem.run_bind, run_underlying ht, Result.andThen_ok, MapKept.run_getObj_map hb, MapIs.checked K hk, run_underlying hk, h2, Sem.run_pure]
      exact MapKept.run_setObj_map _ hb, ?_, ?_⟩
    · refine ⟨_, _, by simp [hlt]; exact ⟨rfl, rfl⟩, ?_⟩
      rw [h3]
      simp [hes]
    · exact ⟨rfl, rfl, rfl, by simp, fun i _ hi => by
        simp only [Array.getElem?_setIfInBounds]
        rw [if_neg (fun e => hi (by rw [e]))]⟩
  · have hej : es[j]? = some e' := by simpa using h3
    refine ⟨_, by
      unfold Instr.mapUpdate Instr.findKey Instr.keyThatStays
      simp only [Sem.run_bind, run_underlying ht, Result.andThen_ok, MapKept.run_getObj_map hb, MapIs.checked K hk, run_underlying hk, h2, Sem.run_pure, Nat.zero_add, hej, Option.map_some, Option.getD_some, h4, K.bits, if_true]
      exact MapKept.run_setObj_map _ hb, ?_, ?_⟩
    · refine ⟨_, _, by simp [hlt]; exact ⟨rfl, rfl⟩, ?_⟩
      rw [← h5]
      simp [Array.toList_modify]
    · exact ⟨rfl, rfl, rfl, by simp, fun i _ hi => by
        simp only [Array.getElem?_setIfInBounds]
        rw [if_neg (fun e => hi (by rw [e]))]⟩
end
end Go.Creel
