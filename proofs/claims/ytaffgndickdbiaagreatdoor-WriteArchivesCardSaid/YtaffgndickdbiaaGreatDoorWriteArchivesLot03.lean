/-
  Texts of this proof, one behind the other: EntsSpec, EntsFault, Compare, Map, EntsCheck, Ints, ArcSpec, Trim.
-/
import Derived.Test.YtaffgndickdbiaaGreatDoorEnts
import Derived.Test.YtaffgndickdbiaaGreatDoorEntFault
import Derived.StillTailTactics
import Derived.Deep.CutRange
import Derived.Test.YtaffgndickdbiaaGreatDoorPathCmp
import Derived.Test.YtaffgndickdbiaaGreatDoorBase
import Derived.MapKept
import Derived.Maps.OwnSet
import Derived.Test.YtaffgndickdbiaaGreatDoorEntRight
import Derived.Test.YtaffgndickdbiaaGreatDoorData
import Derived.Test.YtaffgndickdbiaaGreatDoorAppend
import Derived.Test.YtaffgndickdbiaaGreatDoorText
import Derived.Test.YtaffgndickdbiaaGreatDoorWriteArchivesLot02
/-
  The verdict on members: the plain words.
-/
namespace Go.Creel
set_option linter.unusedVariables false
open Go.RowKit
/-- the member of a path among the first k; a zero member where there is none -/
def metGet (l : List Ent) (k : Nat) (s : ByteArray) : Ent := if entFind (l.take k) s < k then ek l (entFind (l.take k) s) else entZ
theorem metGet_yes {l : List Ent} {k : Nat} {s : ByteArray} (h : entFind (l.take k) s < k) : metGet l k s = ek l (entFind (l.take k) s) := if_pos h
theorem metGet_no {l : List Ent} {k : Nat} {s : ByteArray} (h : ¬ entFind (l.take k) s < k) : metGet l k s = entZ := if_neg h
def OrdOkE (l : List Ent) (i : Nat) : Prop := 0 < i → ordP (pathParts (ek l (i - 1)).path) (pathParts (ek l i).path) = -1
def UpOkE (l : List Ent) (i : Nat) : Prop := (pathUp (ek l i).path).size ≠ 0 → (metGet l i (pathUp (ek l i).path)).kind = 2
def LinkOkE (l : List Ent) (i : Nat) : Prop := (ek l i).kind = 4 → (metGet l i (ek l i).target).kind = 1 ∧ (metGet l i (ek l i).target).mt = (ek l i).mt
open Classical in
/-- what is wrong with member i, where nothing is wrong ahead of it -/
noncomputable def stepE (l : List Ent) (i : Nat) : Int :=
  if ¬ entFault (ek l i) = 0 then entFault (ek l i) else if ¬ OrdOkE l i then 6 else if ¬ UpOkE l i then 10 else if ¬ LinkOkE l i then 11 else 0
open Classical in
noncomputable def entsFault (l : List Ent) : Int :=
  if 40 < l.length then 1 else if h : ∃ k, k < l.length ∧ stepE l k ≠ 0 ∧ ∀ j, j < k → stepE l j = 0 then stepE l (Classical.choose h) else 0
theorem entsFault_many {l : List Ent} (h : 40 < l.length) : entsFault l = 1 := by unfold entsFault; rw [if_pos h]
theorem entsFault_at {l : List Ent} {k : Nat} {e : Int} (hl : l.length ≤ 40) (hk : k < l.length) (hz : ∀ j, j < k → stepE l j = 0) (he : stepE l k = e) (hne : e ≠ 0) : entsFault l = e := by
  have hex : ∃ k, k < l.length ∧ stepE l k ≠ 0 ∧ ∀ j, j < k → stepE l j = 0 := ⟨k, hk, by rw [he]; exact hne, hz⟩
  unfold entsFault
  rw [if_neg (by omega), dif_pos hex]
  obtain ⟨h1, h2, h3⟩ := Classical.choose_spec hex
  have : Classical.choose hex = k := by
    rcases Nat.lt_trichotomy (Classical.choose hex) k with h | h | h
    · exact absurd (hz _ h) h2
    · exact h
    · exact absurd (h3 _ h) (by rw [he]; exact hne)
  rw [this, he]
theorem entsFault_ok {l : List Ent} (hl : l.length ≤ 40) (hz : ∀ j, j < l.length → stepE l j = 0) : entsFault l = 0 := by
  unfold entsFault
  rw [if_neg (by omega), dif_neg (by rintro ⟨k, h1, h2, _⟩; exact h2 (hz k h1))]
theorem entsFault_all {l : List Ent} (h : entsFault l = 0) : l.length ≤ 40 ∧ ∀ k, k < l.length → stepE l k = 0 := by
  have hl : l.length ≤ 40 := by
    rcases Nat.lt_or_ge 40 l.length with e | e
    · rw [entsFault_many e] at h; cases h
    · exact e
  refine ⟨hl, ?_⟩
  have key : ∀ k, k ≤ l.length → ∀ j, j < k → stepE l j = 0 := by
    intro k
    induction k with
    | zero => intro _ j hj; omega
    | succ k ih =>
      intro hk j hj
      by_cases e : j = k
      · subst e
        refine Classical.byContradiction fun hne => ?_
        exact hne ((entsFault_at hl (by omega) (ih (by omega)) rfl hne).symm.trans h)
      · exact ih (by omega) j (by omega)
  exact key _ (Nat.le_refl _)
theorem stepE_ent {l : List Ent} {i : Nat} (h : ¬ entFault (ek l i) = 0) : stepE l i = entFault (ek l i) := by unfold stepE; rw [if_pos h]
theorem stepE_ord {l : List Ent} {i : Nat} (h : entFault (ek l i) = 0) (h1 : ¬ OrdOkE l i) : stepE l i = 6 := by unfold stepE; rw [if_neg (by simpa using h), if_pos h1]
theorem stepE_up {l : List Ent} {i : Nat} (h : entFault (ek l i) = 0) (h1 : OrdOkE l i) (h2 : ¬ UpOkE l i) : stepE l i = 10 := by unfold stepE; rw [if_neg (by simpa using h), if_neg (by simpa using h1), if_pos h2]
theorem stepE_link {l : List Ent} {i : Nat} (h : entFault (ek l i) = 0) (h1 : OrdOkE l i) (h2 : UpOkE l i) (h3 : ¬ LinkOkE l i) : stepE l i = 11 := by unfold stepE; rw [if_neg (by simpa using h), if_neg (by simpa using h1), if_neg (by simpa using h2), if_pos h3]
theorem stepE_ok {l : List Ent} {i : Nat} (h : entFault (ek l i) = 0) (h1 : OrdOkE l i) (h2 : UpOkE l i) (h3 : LinkOkE l i) : stepE l i = 0 := by unfold stepE; rw [if_neg (by simpa using h), if_neg (by simpa using h1), if_neg (by simpa using h2), if_neg (by simpa using h3)]
theorem stepE_zero {l : List Ent} {i : Nat} (h : stepE l i = 0) : entFault (ek l i) = 0 ∧ OrdOkE l i := by
  have h0 : entFault (ek l i) = 0 := Classical.byContradiction fun e => e ((stepE_ent e).symm.trans h)
  refine ⟨h0, Classical.byContradiction fun e => ?_⟩
  rw [stepE_ord h0 e] at h
  cases h
theorem entFault_path {x : Ent} (h : entFault x = 0) : x.path.size ≤ 400 := by
  unfold entFault entFaultN at h
  have hp : pathFault x.path = 0 := Classical.byContradiction fun e => by rw [if_pos e] at h; exact e h
  refine Classical.byContradiction fun e => ?_
  have := pathFault_size (s := x.path) (.inr (by omega))
  rw [hp] at this
  cases this
theorem ordP_range (X Y : List ByteArray) : ordP X Y = -1 ∨ ordP X Y = 0 ∨ ordP X Y = 1 := by
  induction X generalizing Y with
  | nil => cases Y <;> simp [ordP]
  | cons x X ih =>
    cases Y with
    | nil => simp [ordP]
    | cons y Y =>
      unfold ordP
      split
      · exact ih Y
      · rcases cmpS_cases x y with ⟨_, h⟩ | ⟨_, _, h⟩ | ⟨_, _, h⟩ <;> simp [h]
open Classical in
noncomputable def ordBadE (l : List Ent) (k : Nat) : Bool := decide (¬ OrdOkE l k)
theorem ordBadE_t {l : List Ent} {k : Nat} (h : ¬ OrdOkE l k) : ordBadE l k = true := by unfold ordBadE; simp [h]
theorem ordBadE_f {l : List Ent} {k : Nat} (h : OrdOkE l k) : ordBadE l k = false := by unfold ordBadE; simp [h]
open Classical in
noncomputable def upOkE (l : List Ent) (k : Nat) : Bool := decide (UpOkE l k)
theorem upOkE_t {l : List Ent} {k : Nat} (h : UpOkE l k) : upOkE l k = true := by unfold upOkE; simp [h]
theorem upOkE_f {l : List Ent} {k : Nat} (h : ¬ UpOkE l k) : upOkE l k = false := by unfold upOkE; simp [h]
open Classical in
noncomputable def linkOkE (l : List Ent) (k : Nat) : Bool := decide (LinkOkE l k)
theorem linkOkE_t {l : List Ent} {k : Nat} (h : LinkOkE l k) : linkOkE l k = true := by unfold linkOkE; simp [h]
theorem linkOkE_f {l : List Ent} {k : Nat} (h : ¬ LinkOkE l k) : linkOkE l k = false := by unfold linkOkE; simp [h]
theorem ordE_zero (l : List Ent) : ordBadE l 0 = false := ordBadE_f (fun h => absurd h (by omega))
theorem ordE_dec (l : List Ent) (q : Nat) : decide (0 ≤ ordP (pathParts (ek l q).path) (pathParts (ek l (q + 1)).path)) = ordBadE l (q + 1) := by
  by_cases h : ordP (pathParts (ek l q).path) (pathParts (ek l (q + 1)).path) = -1
  · rw [ordBadE_f (fun _ => by simpa using h), h]; rfl
  · rw [ordBadE_t (fun e => h (by simpa using e (by omega)))]
    rcases ordP_range (pathParts (ek l q).path) (pathParts (ek l (q + 1)).path) with e | e | e
    · exact absurd e h
    · rw [e]; rfl
    · rw [e]; rfl
theorem zsE_next {l : List Ent} {k : Nat} (hz : ∀ j, j < k → stepE l j = 0) (h : stepE l k = 0) : ∀ j, j < k + 1 → stepE l j = 0 := fun j hj => by
  by_cases e : j = k
  · rw [e]; exact h
  · exact hz j (by omega)
theorem meta_sameE {x y : Meta} (h0 : x.mode = y.mode) (h1 : x.uid = y.uid) (h2 : x.gid = y.gid) (h3 : x.user.toList = y.user.toList) (h4 : x.group.toList = y.group.toList) (h5 : x.second = y.second) (h6 : x.nano = y.nano) : x = y := by
  obtain ⟨a, b, c, d, e, f, g⟩ := x
  obtain ⟨a', b', c', d', e', f', g'⟩ := y
  simp only at *
  rw [h0, h1, h2, toList_inj h3, toList_inj h4, h5, h6]
/-- metas that differ: where they first do -/
theorem meta_casesE {x y : Meta} (h : x ≠ y) : (¬ x.mode = y.mode) ∨ (x.mode = y.mode ∧ ¬ x.uid = y.uid) ∨ (x.mode = y.mode ∧ x.uid = y.uid ∧ ¬ x.gid = y.gid) ∨ (x.mode = y.mode ∧ x.uid = y.uid ∧ x.gid = y.gid ∧ ¬ x.user.toList = y.user.toList) ∨
    (x.mode = y.mode ∧ x.uid = y.uid ∧ x.gid = y.gid ∧ x.user.toList = y.user.toList ∧ ¬ x.group.toList = y.group.toList) ∨ (x.mode = y.mode ∧ x.uid = y.uid ∧ x.gid = y.gid ∧ x.user.toList = y.user.toList ∧ x.group.toList = y.group.toList ∧ ¬ x.second = y.second) ∨
    (x.mode = y.mode ∧ x.uid = y.uid ∧ x.gid = y.gid ∧ x.user.toList = y.user.toList ∧ x.group.toList = y.group.toList ∧ x.second = y.second ∧ ¬ x.nano = y.nano) := by
  by_cases h0 : x.mode = y.mode
  · by_cases h1 : x.uid = y.uid
    · by_cases h2 : x.gid = y.gid
      · by_cases h3 : x.user.toList = y.user.toList
        · by_cases h4 : x.group.toList = y.group.toList
          · by_cases h5 : x.second = y.second
            · by_cases h6 : x.nano = y.nano
              · exact absurd (meta_sameE h0 h1 h2 h3 h4 h5 h6) h
              · simp [h0, h1, h2, h3, h4, h5, h6]
            · simp [h0, h1, h2, h3, h4, h5]
          · simp [h0, h1, h2, h3, h4]
        · simp [h0, h1, h2, h3]
      · simp [h0, h1, h2]
    · simp [h0, h1]
  · simp [h0]
end Go.Creel
/-
  The reference's verdict on members, walked.
-/
namespace Go.Proofs.YtaffgndickdbiaaGreatDoor
set_option linter.unusedVariables false
set_option linter.unusedSimpArgs false
open Go.Creel Go.RowKit
theorem entF_call (x : Ent) (w : World) (h : x.Ok maxLen w) : Calls Tryz.prog 101 #[x.val] w fun e w' => e = .returned (.int .i64 (entFault x)) ∧ Below w.heap.size w w' :=
  EntryFault_any x w h.path h.target h.mt (by obtain ⟨_, _, _, _, _, h, _⟩ := h.data; exact h) h.kind (Nat.le_refl _)
set_option maxRecDepth 100000 in
set_option maxHeartbeats 4000000 in
theorem EntsFault_at (b off cap : Nat) (l : List Ent) (w : World) (hpos : 0 < l.length) (hle : l.length ≤ cap) (hm : cap ≤ maxLen) (hc : EntsAt w b off l) (ho : ∀ i, i < l.length → (ek l i).Ok maxLen w) :
    Calls Tryz.prog 48 #[.slice (some ⟨b, off, none⟩) l.length cap] w fun e w' => e = .returned (.int .i64 (entsFault l)) ∧ Below w.heap.size w w' := by
  have hm' := hm
  unfold maxLen at hm
  have HC := Lib.hid hc
  have HO := Lib.hid ho
  have HCAP := Lib.hid hm'
  clear hc ho hm'
  by_cases hmany : 40 < l.length
  · have HF := Lib.hid (entsFault_many hmany)
    go_enter Tryz.func48, Tryz.ntmps48
    go_wp2
    go_ret
    exact ⟨ret_i HF.out, Below.refl _ _⟩
  have hfew : l.length ≤ 40 := by omega
  clear hmany
  go_enter Tryz.func48, Tryz.ntmps48
  go_wp2
  go_loopw [3, 4, 5, 6, 7, 8, 9, 15] (fun _ _ _ _ _ _ _ i wr => ∃ k : Nat, k ≤ l.length ∧ i = .int .i64 k ∧ Hid (∀ j, j < k → stepE l j = 0) ∧ Hid (Below w.heap.size w wr)) (fun _ _ _ _ _ _ _ i _ => l.length - (intOf i).toNat)
  case atStart => exact ⟨0, by omega, rfl, Lib.hid fun j hj => absurd hj (by omega), Lib.hid (Below.refl _ _)⟩
  case round =>
    obtain ⟨k, hk, rfl, HZ, HB⟩ := hrel
    by_cases hlt : k < l.length
    · obtain ⟨h0, h1, h2, h3, h4, h5, h6, h7, h8, h9, h10⟩ := (HC.out.below HB.out) k hlt
      have HX := Lib.hid ((HO.out k hlt).below HB.out)
      have HAT := Lib.hid (fun e => entsFault_at (e := e) hfew hlt HZ.out)
      by_cases hA : entFault (ek l k) = 0
      · have HA := Lib.hid hA
        clear hA
        go_wp2_with fail
        have HBX := Lib.hid (entAt_box wr (ek l k) 26)
        refine (entF_call _ _ (HX.out.below ((Below.refl _ _).alloc (Nat.le_refl _) _))).mono ?_
        rintro e w1 ⟨rfl, hb⟩
        have HB1 := Lib.hid ((HB.out.alloc HB.out.size _).trans (hb.mono (by simp; exact Nat.le_succ_of_le HB.out.size)))
        have HBX1 := Lib.hid (HBX.out.below hb)
        rw [HA.out]
        clear hb h0 h1 h2 h3 h4 h5 h6 h7 h8 h9 h10
        generalize wr.heap.size = bx at *
        obtain ⟨g0, g1, g2, g3, g4, g5, g6, g7, g8, g9, g10⟩ := HBX1.out.zero
        have HPZ := Lib.hid (fun (j : Nat) (hj : j ≤ k) => show (ek l j).path.size ≤ 1048576 from Nat.le_trans (entFault_path (by
          rcases Nat.lt_or_ge j k with h | h
          · exact (stepE_zero (HZ.out j h)).1
          · rw [show j = k by omega]; exact HA.out)) (by decide))
        go_upto_region 9 with fail
        go_cut [15, 38] from 15 to 97 (fun c u wc => c = .int .i64 k ∧ u = .bool (ordBadE l k) ∧ Hid (Below w1.heap.size w1 wc))
        case first =>
          by_cases hk0 : k = 0
          · subst hk0
            go_wp2
            go_quiet (fail)
            go_wp2_with fail
            go_meet
            case rel => exact ⟨rfl, congrArg Value.bool (ordE_zero l).symm, Lib.hid (below_draws _ _ _)⟩
          · obtain ⟨q, rfl⟩ : ∃ q, k = q + 1 := ⟨k - 1, by omega⟩
            obtain ⟨p0, _⟩ := (HC.out.below HB1.out) q (by omega)
            have hwq : IntKind.i64.wrap (q : Int) = (q : Int) := by rw [IntKind.wrap_i64]; omega
            have hql : (q : Int) < (l.length : Int) := by omega
            go_wp2
            go_still_tail 11, (by kernel_rfl)
            go_wp2_with fail
            refine (PathOrder_any _ _ _ (HPZ.out q (by omega)) (HPZ.out (q + 1) (by omega))).mono ?_
            rintro e wc ⟨rfl, hb⟩
            have HBC := Lib.hid ((Below.refl w1.heap.size w1).drew.trans hb)
            clear hb
            go_wp2_with fail
            go_meet
            case rel => exact ⟨rfl, congrArg Value.bool (ordE_dec _ _), HBC⟩
        case rest =>
          obtain ⟨rfl, rfl, HBC⟩ := hcut
          have HB2 := Lib.hid (HB1.out.trans (HBC.out.mono HB1.out.size))
          have HBX2 := Lib.hid (HBX1.out.below HBC.out)
          clear g0 g1 g2 g3 g4 g5 g6 g7 g8 g9 g10
          obtain ⟨g0, g1, g2, g3, g4, g5, g6, g7, g8, g9, g10⟩ := HBX2.out.zero
          by_cases hO : OrdOkE l k
          · have HOK := Lib.hid hO
            rw [ordBadE_f hO]
            clear hO
            go_wp2_with fail
            refine (PathSplit_any _ _ (Nat.le_trans (HPZ.out k (Nat.le_refl _)) (by decide))).mono ?_
            rintro e w2 ⟨rfl, hb⟩
            have HB3 := Lib.hid (HB2.out.trans (hb.mono HB2.out.size))
            have HBX3 := Lib.hid (HBX2.out.below hb)
            clear hb g0 g1 g2 g3 g4 g5 g6 g7 g8 g9 g10
            obtain ⟨g0, g1, g2, g3, g4, g5, g6, g7, g8, g9, g10⟩ := HBX3.out.zero
            have htk : (l.take k).length = k := by rw [List.length_take]; omega
            have hfind := fun (n : Nat) (s : ByteArray) => EntryAt_at b off cap (l.take k) s (w2.drewN n) (by omega) HCAP.out (((HC.out.below HB3.out).below (below_draws _ _ n)).take k)
            rw [htk] at hfind
            have HFI := Lib.hid hfind
            have htl := entFind_le (l.take k) (pathUp (ek l k).path)
            have htl2 := entFind_le (l.take k) (ek l k).target
            rw [htk] at htl htl2
            have hkc : k ≤ cap := by omega
            have HUP := Lib.hid (show UpOkE l k ↔ ((pathUp (ek l k).path).size ≠ 0 → (metGet l k (pathUp (ek l k).path)).kind = 2) from Iff.rfl)
            have HF0 := Lib.hid (HFI.out 0 (pathUp (ek l k).path))
            have HMY := Lib.hid (fun h => metGet_yes (l := l) (k := k) (s := pathUp (ek l k).path) h)
            have HMN := Lib.hid (fun h => metGet_no (l := l) (k := k) (s := pathUp (ek l k).path) h)
            clear hfind htk
            generalize hn : entFind (l.take k) (pathUp (ek l k).path) = n at HF0 HMY HMN htl
            generalize hup : pathUp (ek l k).path = up at HF0 HUP HMY HMN
            clear hn hup
            go_upto_region 13 with (first | (go_at_call 63; refine HF0.out.mono ?_; rintro e w' ⟨rfl, rfl⟩))
            go_cut [15, 64] from 15 to 97 (fun c u wc2 => c = .int .i64 k ∧ u = .bool (!upOkE l k) ∧ wc2 = w2)
            case first =>
              by_cases h0 : up.size = 0
              · have HU := Lib.hid (upOkE_t (HUP.out.2 fun e => absurd h0 e))
                have he := empty_t h0
                clear h0
                go_wp2_with fail
                go_meet
                case rel => exact ⟨rfl, by rw [HU.out]; rfl, rfl⟩
              · have he := empty_f h0
                by_cases hnk : n = k
                · have HU := Lib.hid (upOkE_f (fun e => by have := HUP.out.1 e h0; rw [HMN.out (by omega)] at this; cases this))
                  clear h0
                  subst hnk
                  go_wp2_with fail
                  go_meet
                  case rel => exact ⟨rfl, by rw [HU.out]; rfl, rfl⟩
                · obtain ⟨_, q1, _⟩ := (HC.out.below HB3.out) n (by omega)
                  have hd : ((n : Int) == (k : Int)) = false := by rw [beq_eq_false_iff_ne]; omega
                  by_cases hkd : (ek l n).kind = 2
                  · have HU := Lib.hid (upOkE_t (HUP.out.2 fun e => by rw [HMY.out (by omega)]; exact hkd))
                    have hd2 : ((ek l n).kind != 2) = false := by rw [hkd]; rfl
                    go_wp2_with fail
                    go_meet
                    case rel => exact ⟨rfl, by rw [HU.out]; rfl, rfl⟩
                  · have HU := Lib.hid (upOkE_f (fun e => by have := HUP.out.1 e h0; rw [HMY.out (by omega)] at this; exact hkd this))
                    have hd2 : ((ek l n).kind != 2) = true := by rw [bne_iff_ne]; exact hkd
                    go_wp2_with fail
                    go_meet
                    case rel => exact ⟨rfl, by rw [HU.out]; rfl, rfl⟩
            case rest =>
              obtain ⟨rfl, rfl, rfl⟩ := hcut
              clear HF0 HUP HMY HMN htl
              by_cases hU : UpOkE l k
              · rw [upOkE_t hU]
                have HUO := Lib.hid hU
                clear hU
                have HLK := Lib.hid (show LinkOkE l k ↔ ((ek l k).kind = 4 → (metGet l k (ek l k).target).kind = 1 ∧ (metGet l k (ek l k).target).mt = (ek l k).mt) from Iff.rfl)
                have HMY := Lib.hid (fun h => metGet_yes (l := l) (k := k) (s := (ek l k).target) h)
                have HMN := Lib.hid (fun h => metGet_no (l := l) (k := k) (s := (ek l k).target) h)
                have HF1 := Lib.hid (fun n => HFI.out n (ek l k).target)
                generalize hn : entFind (l.take k) (ek l k).target = n at HF1 HMY HMN htl2
                clear hn
                go_wp2
                go_quiet ((first | (go_at_call 63; exact quiet_same (HF1.out _))))
                go_upto_region 16 with fail
                go_cut [15, 96] from 15 to 97 (fun c u wc2 => c = .int .i64 k ∧ u = .bool (!linkOkE l k) ∧ Hid (Below wc.heap.size wc wc2))
                case first =>
                  by_cases hk4 : (ek l k).kind = 4
                  · have hd4 : ((ek l k).kind == 4) = true := by rw [hk4]; rfl
                    by_cases hnk : n = k
                    · have HU := Lib.hid (linkOkE_f (fun e => by have := (HLK.out.1 e hk4).1; rw [HMN.out (by omega)] at this; cases this))
                      clear hk4
                      subst hnk
                      go_wp2
                      go_quiet (fail)
                      go_wp2_with fail
                      go_meet
                      case rel => exact ⟨rfl, by rw [HU.out]; rfl, Lib.hid ((below_draws _ _ _).trans (below_draws _ _ _))⟩
                    · obtain ⟨q0, q1, q2, q3, q4, q5, q6, q7, q8, q9, q10⟩ := (HC.out.below HB3.out) n (by omega)
                      have hd : ((n : Int) == (k : Int)) = false := by rw [beq_eq_false_iff_ne]; omega
                      have hnl : (n : Int) < (l.length : Int) := by omega
                      by_cases hkd : (ek l n).kind = 1
                      · have hd2 : ((ek l n).kind != 1) = false := by rw [hkd]; rfl
                        by_cases hmt : (ek l n).mt = (ek l k).mt
                        · have HU := Lib.hid (linkOkE_t (HLK.out.2 fun _ => by rw [HMY.out (by omega)]; exact ⟨hkd, hmt⟩))
                          have e0 := congrArg Meta.mode hmt
                          have e1 := congrArg Meta.uid hmt
                          have e2 := congrArg Meta.gid hmt
                          have e3 : (ek l n).mt.user.toList = (ek l k).mt.user.toList := by rw [hmt]
                          have e4 : (ek l n).mt.group.toList = (ek l k).mt.group.toList := by rw [hmt]
                          have e5 := congrArg Meta.second hmt
                          have e6 := congrArg Meta.nano hmt
                          clear hmt hk4 hkd
                          go_wp2
                          go_quiet (fail)
                          go_wp2_with fail
                          go_meet
                          case rel => exact ⟨rfl, by rw [HU.out]; rfl, Lib.hid ((below_draws _ _ _).trans (below_draws _ _ _))⟩
                        · have HU := Lib.hid (linkOkE_f (fun e => by have := (HLK.out.1 e hk4).2; rw [HMY.out (by omega)] at this; exact hmt this))
                          clear hk4 hkd
                          rcases meta_casesE hmt with e0 | ⟨e0, e1⟩ | ⟨e0, e1, e2⟩ | ⟨e0, e1, e2, e3⟩ | ⟨e0, e1, e2, e3, e4⟩ | ⟨e0, e1, e2, e3, e4, e5⟩ | ⟨e0, e1, e2, e3, e4, e5, e6⟩
                          all_goals clear hmt
                          all_goals go_wp2
                          all_goals go_quiet (fail)
                          all_goals go_wp2_with fail
                          all_goals go_meet
                          all_goals exact ⟨rfl, by rw [HU.out]; rfl, Lib.hid ((below_draws _ _ _).trans (below_draws _ _ _))⟩
                      · have HU := Lib.hid (linkOkE_f (fun e => by have := (HLK.out.1 e hk4).1; rw [HMY.out (by omega)] at this; exact hkd this))
                        have hd2 : ((ek l n).kind != 1) = true := by rw [bne_iff_ne]; exact hkd
                        clear hk4 hkd
                        go_wp2
                        go_quiet (fail)
                        go_wp2_with fail
                        go_meet
                        case rel => exact ⟨rfl, by rw [HU.out]; rfl, Lib.hid ((below_draws _ _ _).trans (below_draws _ _ _))⟩
                  · have HU := Lib.hid (linkOkE_t (HLK.out.2 fun e => absurd e hk4))
                    have hd4 : ((ek l k).kind == 4) = false := by rw [beq_eq_false_iff_ne]; exact hk4
                    clear hk4
                    go_wp2
                    go_quiet (fail)
                    go_wp2_with fail
                    go_meet
                    case rel => exact ⟨rfl, by rw [HU.out]; rfl, Lib.hid ((below_draws _ _ _).trans (below_draws _ _ _))⟩
                case rest =>
                  obtain ⟨rfl, rfl, HBD⟩ := hcut
                  have HB5 := Lib.hid (HB3.out.trans (HBD.out.mono HB3.out.size))
                  by_cases hL : LinkOkE l k
                  · rw [linkOkE_t hL]
                    have HS := Lib.hid (stepE_ok HA.out HOK.out HUO.out hL)
                    clear hL
                    go_wp2
                    go_roundw
                    case rel => exact ⟨k + 1, by omega, by go_num, Lib.hid (zsE_next HZ.out HS.out), HB5⟩
                    case measure => simp [intOf]; omega
                  · rw [linkOkE_f hL]
                    have HF := Lib.hid (HAT.out 11 (stepE_link HA.out HOK.out HUO.out hL) (by decide))
                    clear hL
                    go_wp2
                    go_ret
                    exact ⟨ret_i HF.out, HB5.out⟩
              · have HF := Lib.hid (HAT.out 10 (stepE_up HA.out HOK.out hU) (by decide))
                rw [upOkE_f hU]
                clear hU
                go_wp2
                go_ret
                exact ⟨ret_i HF.out, HB3.out⟩
          · have HF := Lib.hid (HAT.out 6 (stepE_ord HA.out hO) (by decide))
            rw [ordBadE_t hO]
            clear hO
            go_wp2
            go_ret
            exact ⟨ret_i HF.out, HB2.out⟩
      · have HF := Lib.hid (HAT.out _ (stepE_ent hA) hA)
        go_wp2_with fail
        refine (entF_call _ _ (HX.out.below ((Below.refl _ _).alloc (Nat.le_refl _) _))).mono ?_
        rintro e w1 ⟨rfl, hb⟩
        have HB1 := Lib.hid ((HB.out.alloc HB.out.size _).trans (hb.mono (by simp; exact Nat.le_succ_of_le HB.out.size)))
        clear hb h0 h1 h2 h3 h4 h5 h6 h7 h8 h9 h10
        generalize entFault (ek l k) = q at *
        go_wp2
        go_ret
        exact ⟨ret_i HF.out, HB1.out⟩
    · obtain rfl : k = l.length := by omega
      have HF := Lib.hid (entsFault_ok hfew HZ.out)
      go_wp2
      go_ret
      exact ⟨ret_i HF.out, HB.out⟩
set_option maxRecDepth 100000 in
theorem EntsFault_nil (a : Option Addr) (cap : Nat) (w : World) :
    Calls Tryz.prog 48 #[.slice a 0 cap] w fun e w' => e = .returned (.int .i64 0) ∧ w = w' := by
  go_enter Tryz.func48, Tryz.ntmps48
  go_wp2
  go_loop [3, 4, 5, 6, 7, 8, 9, 15] (fun _ _ _ _ _ _ _ i => i = .int .i64 0) (fun _ _ _ _ _ _ _ _ => 0)
  case atStart => rfl
  case round =>
    obtain rfl := hrel
    go_wp2
    go_ret
    exact ⟨rfl, rfl⟩
end Go.Proofs.YtaffgndickdbiaaGreatDoor
/-
  path.Compare.
-/
namespace Go.Proofs.YtaffgndickdbiaaGreatDoor
set_option linter.unusedVariables false
open Go.Creel Go.RowKit
set_option maxRecDepth 100000 in
theorem Compare_any (a b : ByteArray) (w : World) (hM : MaxOk w) (ha : a.size ≤ 1048576) (hb : b.size ≤ 1048576) :
    Calls Tryz.prog 113 #[.string a, .string b] w fun e w' => e = .returned (.int .i64 (ordP (pathParts a) (pathParts b))) ∧ Below w.heap.size w w' := by
  have HX := Lib.hid (parts_len' ha)
  have HY := Lib.hid (parts_len' hb)
  have HM := Lib.hid hM
  clear hM
  go_enter Tryz.func113, Tryz.ntmps113
  go_wp2_with fail
  refine (Parts_any _ _ HM.out (by omega)).mono ?_
  rintro e w1 ⟨v1, rfl, ho, hb1⟩
  have HB1 := Lib.hid hb1
  have HO1 := Lib.hid ho
  clear hb1 ho
  go_wp2_with fail
  refine (Parts_any _ _ (HM.out.below HB1.out) (by omega)).mono ?_
  rintro e w2 ⟨v2, rfl, ho, hb2⟩
  have HB2 := Lib.hid (HB1.out.trans (hb2.mono HB1.out.size))
  have HO2 := Lib.hid (HO1.out.below hb2)
  have HP2 := Lib.hid ho
  clear hb2 ho
  go_wp2_with fail
  refine (cmpTexts_any _ _ _ _ _ _ _ HX.out HY.out HO2.out HP2.out).mono ?_
  rintro e w3 ⟨rfl, hb3⟩
  have HB3 := Lib.hid (HB2.out.trans (hb3.mono HB2.out.size))
  clear hb3
  go_wp2
  go_ret
  exact ⟨rfl, HB3.out⟩
end Go.Proofs.YtaffgndickdbiaaGreatDoor
/-
  A map of the call's own, as a list of keys and values: looked up and written, whatever its values are. No program is named here.
-/
namespace Go.Creel
set_option linter.unusedVariables false
set_option linter.unusedSimpArgs false
set_option linter.unusedSectionVars false
open Go.RowKit
/-- a kind of keys: the model compares them at once -/
structure KeyOn {κ : Type} [DecidableEq κ] (kind : TypeDesc) (mk : κ → Value) : Prop where
  same : ∀ a b, Instr.sameNow kind (mk a) (mk b) = some (decide (a = b))
  bits : ∀ a, Instr.sameBits 10000 (mk a) (mk a) = true
  check : ∀ {P : Program} {t : TypeId} (w : World) (a : κ), P.underlying t = some kind → (Instr.checkKey false 10000 t (mk a)).run P w = .ok () w
  checkE : ∀ {P : Program} {t : TypeId} (w : World) (a : κ), P.underlying t = some kind → (Instr.checkKey true 10000 t (mk a)).run P w = .ok () w
theorem checkKey_succ (b : Bool) (t : TypeId) (v : Value) : Instr.checkKey b 10000 t v = Instr.checkKey b (9999 + 1) t v := rfl
theorem bab (a b : ByteArray) : (a == b) = decide (a = b) := by
  have h : (a == b) = (a.data == b.data) := rfl
  rw [h, Bool.eq_iff_iff, beq_iff_eq, decide_eq_true_iff]
  exact ⟨fun h => ByteArray.ext h, fun h => by rw [h]⟩
theorem keyOn_int : KeyOn (.int .i64) (fun n : Int => Value.int .i64 n) where
  same a b := by simp [Instr.sameNow, Bool.beq_eq_decide_eq]
  bits a := by simp [Instr.sameBits]
  check w a h := by rw [checkKey_succ]; unfold Instr.checkKey; simp [run_underlying h, Result.andThen]
  checkE w a h := by rw [checkKey_succ]; unfold Instr.checkKey; simp [run_underlying h, Result.andThen]
theorem keyOn_str : KeyOn .string (fun s : ByteArray => Value.string s) where
  same a b := by simp [Instr.sameNow, bab]
  bits a := by simp [Instr.sameBits, bab]
  check w a h := by rw [checkKey_succ]; unfold Instr.checkKey; simp [run_underlying h, Result.andThen]
  checkE w a h := by rw [checkKey_succ]; unfold Instr.checkKey; simp [run_underlying h, Result.andThen]
section
variable {κ : Type} [DecidableEq κ]
def assoc (k : κ) : List (κ × Value) → Option Value
  | [] => none
  | p :: r => if k = p.1 then some p.2 else assoc k r
def assocPut (k : κ) (v : Value) : List (κ × Value) → List (κ × Value)
  | [] => [(k, v)]
  | p :: r => if k = p.1 then (k, v) :: r else p :: assocPut k v r
theorem assoc_put (k k' : κ) (v : Value) : ∀ l, assoc k' (assocPut k v l) = if k' = k then some v else assoc k' l
  | [] => by simp [assocPut, assoc]
  | p :: r => by
    have ih := assoc_put k k' v r
    unfold assocPut
    by_cases h : k = p.1
    · rw [if_pos h]
      unfold assoc
      by_cases h2 : k' = k
      · simp [h2]
      · rw [if_neg h2, if_neg h2, if_neg (by rw [← h]; exact h2)]
    · rw [if_neg h]
      unfold assoc
      by_cases h2 : k' = p.1
      · rw [if_pos h2, if_pos h2, if_neg (by rw [h2]; exact fun e => h e.symm)]
      · rw [if_neg h2, if_neg h2, ih]
/-- block b is a map with just these keys and values -/
def MapIs (mk : κ → Value) (w : World) (b : Nat) (l : List (κ × Value)) : Prop :=
  ∃ es clock, w.heap[b]? = some (.map es clock) ∧ es.toList.map (fun e => (e.key, e.val)) = l.map (fun p => (mk p.1, p.2))
theorem MapIs.lt {mk : κ → Value} {w : World} {b : Nat} {l : List (κ × Value)} (h : MapIs mk w b l) : b < w.heap.size := by
  obtain ⟨es, clock, hb, _⟩ := h
  exact (Array.getElem?_eq_some_iff.1 hb).1
theorem MapIs.below {mk : κ → Value} {w w' : World} {b : Nat} {l : List (κ × Value)} {B : Nat} (h : MapIs mk w b l) (hb : Below B w w') (hB : b < B) : MapIs mk w' b l := by
  obtain ⟨es, clock, h1, h2⟩ := h
  exact ⟨es, clock, (hb.block b hB).trans h1, h2⟩
theorem MapIs.of_heap {mk : κ → Value} {w w' : World} {b : Nat} {l : List (κ × Value)} (h : MapIs mk w b l) (hb : w'.heap[b]? = w.heap[b]?) : MapIs mk w' b l := by
  obtain ⟨es, clock, h1, h2⟩ := h
  exact ⟨es, clock, hb.trans h1, h2⟩
theorem MapIs.made (mk : κ → Value) (w : World) : MapIs mk (w.alloc (.map #[] 0)) w.heap.size ([] : List (κ × Value)) := ⟨#[], 0, heap_alloc_new w _, rfl⟩
theorem findNow_spec {kind : TypeDesc} {mk : κ → Value} (K : KeyOn kind mk) (k : κ) (u : Value) : ∀ (es : List MapEntry) (l : List (κ × Value)) (i : Nat), es.map (fun e => (e.key, e.val)) = l.map (fun p => (mk p.1, p.2)) →
    (assoc k l = none ∧ Instr.findNow kind (mk k) es i = some none ∧ assocPut k u l = l ++ [(k, u)]) ∨
    ∃ j v e, assoc k l = some v ∧ Instr.findNow kind (mk k) es i = some (some (i + j, v)) ∧ es[j]? = some e ∧ e.key = mk k ∧ (es.modify j (fun e => { e with key := mk k, val := u })).map (fun e => (e.key, e.val)) = (assocPut k u l).map (fun p => (mk p.1, p.2))
  | [], [], _, _ => .inl ⟨rfl, rfl, rfl⟩
  | [], p :: l, _, h => by simp at h
  | e :: es, [], _, h => by simp at h
  | e :: es, p :: l, i, h => by
    simp only [List.map_cons, List.cons.injEq, Prod.mk.injEq] at h
    obtain ⟨⟨hk, hv⟩, hr⟩ := h
    have hs := K.same k p.1
    by_cases hkp : k = p.1
    · right
      refine ⟨0, p.2, e, by simp [assoc, hkp], ?_, rfl, by rw [hk, hkp], ?_⟩
      · unfold Instr.findNow
        rw [hk, hs, hkp]
        simp [hv]
      · simp [assocPut, hkp, hr]
    · have hf : Instr.findNow kind (mk k) (e :: es) i = Instr.findNow kind (mk k) es (i + 1) := by
        conv => lhs; unfold Instr.findNow
        rw [hk, hs]
        simp [hkp]
      rcases findNow_spec K k u es l (i + 1) hr with ⟨h1, h2, h3⟩ | ⟨j, v, e', h1, h2, h3, h4, h5⟩
      · left
        exact ⟨by simp [assoc, hkp, h1], by rw [hf, h2], by simp [assocPut, hkp, h3]⟩
      · right
        refine ⟨j + 1, v, e', by simp [assoc, hkp, h1], by rw [hf, h2]; congr 3; omega, by simpa using h3, h4, ?_⟩
        simp [assocPut, hkp, h5, hk, hv]
variable {P : Program} {w : World} {mk : κ → Value} {kind : TypeDesc} {b : Nat} {l : List (κ × Value)}
theorem MapIs.checked (K : KeyOn kind mk) {k : TypeId} (hk : P.underlying k = some kind) (c : Bool) (a : κ) : (Instr.checkKey c 10000 k (mk a)).run P w = .ok () w := by
  cases c
  · exact K.check w a hk
  · exact K.checkE w a hk
theorem MapIs.look_some (h : MapIs mk w b l) (K : KeyOn kind mk) {t k e : TypeId} (ht : P.underlying t = some (.map k e)) (hk : P.underlying k = some kind) {a : κ} {v : Value} (ha : assoc a l = some v) (ok : Bool) :
    (Instr.lookup t (.map (some b)) (mk a) ok).run P w = .ok (if ok then .tuple #[v, .bool true] else v) w := by
  obtain ⟨es, clock, hb, hes⟩ := h
  rcases findNow_spec K a undef es.toList l 0 hes with ⟨h1, _⟩ | ⟨j, v', e', h1, h2, _⟩
  · rw [h1] at ha; cases ha
  · rw [h1] at ha
    cases ha
    unfold Instr.lookup Instr.findKey
    simp only [Sem.run_bind, run_underlying ht, Result.andThen_ok, MapKept.run_getObj_map hb, MapIs.checked K hk, run_underlying hk, h2, Sem.run_pure]
theorem MapIs.look_none (h : MapIs mk w b l) (K : KeyOn kind mk) {t k e : TypeId} (ht : P.underlying t = some (.map k e)) (hk : P.underlying k = some kind) {a : κ} {z : Value} (ha : assoc a l = none) (hz : (zeroValue e).run P w = .ok z w) (ok : Bool) :
    (Instr.lookup t (.map (some b)) (mk a) ok).run P w = .ok (if ok then .tuple #[z, .bool false] else z) w := by
  obtain ⟨es, clock, hb, hes⟩ := h
  rcases findNow_spec K a undef es.toList l 0 hes with ⟨h1, h2, _⟩ | ⟨j, v', e', h1, h2, _⟩
  · unfold Instr.lookup Instr.findKey
    simp only [Sem.run_bind, run_underlying ht, Result.andThen_ok, MapKept.run_getObj_map hb, MapIs.checked K hk, run_underlying hk, h2, Sem.run_pure, hz]
  · rw [h1] at ha; cases ha
theorem MapIs.put (h : MapIs mk w b l) (K : KeyOn kind mk) {t k e : TypeId} (ht : P.underlying t = some (.map k e)) (hk : P.underlying k = some kind) (a : κ) (u : Value) :
    ∃ w', (Instr.mapUpdate t (.map (some b)) (mk a) u).run P w = .ok () w' ∧ MapIs mk w' b (assocPut a u l) ∧ w.grownBy w' (some b) := by
  obtain ⟨es, clock, hb, hes⟩ := h
  have hlt : b < w.heap.size := (Array.getElem?_eq_some_iff.1 hb).1
  rcases findNow_spec K a u es.toList l 0 hes with ⟨h1, h2, h3⟩ | ⟨j, v', e', h1, h2, h3, h4, h5⟩
  · refine ⟨_, by
      unfold Instr.mapUpdate Instr.findKey
      simp only [Sem.run_bind, run_underlying ht, Result.andThen_ok, MapKept.run_getObj_map hb, MapIs.checked K hk, run_underlying hk, h2, Sem.run_pure]
      exact MapKept.run_setObj_map _ hb, ?_, ?_⟩
    · refine ⟨_, _, by simp [hlt]; exact ⟨rfl, rfl⟩, ?_⟩
      rw [h3]
      simp [hes]
    · exact ⟨rfl, rfl, rfl, by simp, fun i _ hi => by
        simp only [Array.getElem?_setIfInBounds]
        rw [if_neg (fun e => hi (by rw [e]))]⟩
  · have hej : es[j]? = some e' := by simpa using h3
    refine ⟨_, by
      unfold Instr.mapUpdate Instr.findKey Instr.keyThatStays
      simp only [Sem.run_bind, run_underlying ht, Result.andThen_ok, MapKept.run_getObj_map hb, MapIs.checked K hk, run_underlying hk, h2, Sem.run_pure, Nat.zero_add, hej, Option.map_some, Option.getD_some, h4, K.bits, if_true]
      exact MapKept.run_setObj_map _ hb, ?_, ?_⟩
    · refine ⟨_, _, by simp [hlt]; exact ⟨rfl, rfl⟩, ?_⟩
      rw [← h5]
      simp [Array.toList_modify]
    · exact ⟨rfl, rfl, rfl, by simp, fun i _ hi => by
        simp only [Array.getElem?_setIfInBounds]
        rw [if_neg (fun e => hi (by rw [e]))]⟩
end
/-- a map literal's entry, into a map just made -/
theorem map_put_new {κ : Type} [DecidableEq κ] {P : Program} {kind : TypeDesc} {mk : κ → Value} (K : KeyOn kind mk) {t k e : TypeId} (ht : P.underlying t = some (.map k e)) (hk : P.underlying k = some kind)
    (es : Array MapEntry) (clock : Nat) (a : κ) (u : Value) (hn : Instr.findNow kind (mk a) es.toList 0 = some none) (W : World) :
    (Instr.mapUpdate t (.map (some W.heap.size)) (mk a) u).run P (W.alloc (.map es clock)) = .ok () (W.alloc (.map (es.push { key := mk a, val := u, born := clock }) (clock + 1))) := by
  have hb : (W.alloc (.map es clock)).heap[W.heap.size]? = some (.map es clock) := heap_alloc_new W _
  unfold Instr.mapUpdate Instr.findKey
  simp only [Sem.run_bind, run_underlying ht, Result.andThen_ok, MapKept.run_getObj_map hb, MapIs.checked K hk, run_underlying hk, hn, Sem.run_pure]
  rw [MapKept.run_setObj_map _ hb]
  congr 1
  simp only [World.alloc]
  congr 1
  apply Array.ext_getElem?
  intro i
  simp only [Array.getElem?_setIfInBounds, Array.getElem?_push, Array.size_push]
  by_cases hi : W.heap.size = i
  · subst hi; simp
  · rw [if_neg hi, if_neg (fun e => hi e.symm), if_neg (fun e => hi e.symm)]
theorem map_look_new {κ : Type} [DecidableEq κ] {P : Program} {kind : TypeDesc} {mk : κ → Value} (K : KeyOn kind mk) {t k e : TypeId} (ht : P.underlying t = some (.map k e)) (hk : P.underlying k = some kind)
    (es : Array MapEntry) (clock : Nat) (a : κ) (i : Nat) (v : Value) (hn : Instr.findNow kind (mk a) es.toList 0 = some (some (i, v))) (W : World) :
    (Instr.lookup t (.map (some W.heap.size)) (mk a) false).run P (W.alloc (.map es clock)) = .ok v (W.alloc (.map es clock)) := by
  have hb : (W.alloc (.map es clock)).heap[W.heap.size]? = some (.map es clock) := heap_alloc_new W _
  unfold Instr.lookup Instr.findKey
  simp only [Sem.run_bind, run_underlying ht, Result.andThen_ok, MapKept.run_getObj_map hb, MapIs.checked K hk, run_underlying hk, hn, Sem.run_pure]
  rfl
/-- 'm[k] = v' for the walk -/
theorem wpList_put {κ : Type} [DecidableEq κ] {P : Program} (w : World) {ops : Array Oper} {rest : List Oper} {o : Oper} {a : Act} {Q : Exit → Act → World → Prop}
    (hg : o.guard = none) (m x v : Operand) (t : TypeId) (hop : o.op = Op.mapUpdate t m x v)
    {mk : κ → Value} {kind : TypeDesc} (K : KeyOn kind mk) (k e : TypeId) (ht : P.underlying t = some (.map k e)) (hk : P.underlying k = some kind) (b : Nat) (l : List (κ × Value))
    (hm : a.eval m = .map (some b)) (hown : MapIs mk w b l) (key : κ) (val : Value) (hx : a.eval x = mk key) (hv : a.eval v = val)
    (hK : ∀ w', MapIs mk w' b (assocPut key val l) → w.grownBy w' (some b) → wpList P ops Q rest (a.put o.dst undef) w') :
    wpList P ops Q (o :: rest) a w := by
  refine wpList_plain hg fun K' hK' => ?_
  obtain ⟨w', hrun, r1, r2⟩ := hown.put K ht hk key val
  unfold Oper.wp
  simp [execOp, hop, hm, hx, hv, hrun, Result.andThen]
  exact hK' _ _ (hK w' r1 r2)
end Go.Creel
/-
  plan.Check, walked.
-/
namespace Go.Creel
set_option linter.unusedVariables false
open Go.RowKit
/-- the map of the members met so far -/
def MetIs (l : List Ent) (k : Nat) (m : List (ByteArray × Value)) : Prop := ∀ s, assoc s m = if entFind (l.take k) s < k then some (metGet l k s).val else none
theorem MetIs.start (l : List Ent) : MetIs l 0 [] := fun s => rfl
theorem MetIs.put {l : List Ent} {k : Nat} {m : List (ByteArray × Value)} (h : MetIs l k m) (hk : k < l.length) (hz : ∀ j, j < k + 1 → stepE l j = 0) : MetIs l (k + 1) (assocPut (ek l k).path (ek l k).val m) := by
  have hne := chain_ne (p := fun j => (ek l j).path) (k := k) (fun i h0 h1 => (stepE_zero (hz i (by omega))).2 h0)
  intro s
  rw [assoc_put]
  by_cases e : s = (ek l k).path
  · rw [if_pos e]
    have hf : entFind (l.take (k + 1)) s = k := by
      refine entFind_at (by rw [List.length_take]; omega) (fun j hj => ?_) (by rw [ek_take (by omega)]; exact e.symm)
      rw [ek_take (by omega), e]
      exact hne j hj
    rw [if_pos (by omega), metGet_yes (by omega), hf]
  · rw [if_neg e, h s]
    by_cases hf : entFind (l.take k) s < k
    · rw [if_pos hf, metGet_yes hf]
      have h1 := entFind_take hk hf
      rw [if_pos (by omega), metGet_yes (by omega), h1]
    · rw [if_neg hf]
      have hn := entFind_not (by omega) hf
      have : entFind (l.take (k + 1)) s = k + 1 := entFind_none (by omega) (fun j hj => by
        by_cases ej : j = k
        · rw [ej]; exact fun h => e h.symm
        · exact hn j (by omega))
      rw [if_neg (by omega)]
end Go.Creel
namespace Go.Proofs.YtaffgndickdbiaaGreatDoor
set_option linter.unusedVariables false
set_option linter.unusedSimpArgs false
open Go.Creel Go.RowKit
theorem entR_call (x : Ent) (w : World) (hM : MaxOk w) (h : x.Ok maxLen w) : Calls Tryz.prog 36 #[x.val] w fun e w' => e = .returned (.int .i64 (entFault x)) ∧ Below w.heap.size w w' :=
  PlanRight_any x w hM h.path h.target h.mt (by obtain ⟨_, _, _, _, _, h, _⟩ := h.data; exact h) h.kind (Nat.le_refl _)
theorem met_look {l : List Ent} {k mb : Nat} {m : List (ByteArray × Value)} {w : World} (hm : MapIs (fun s : ByteArray => Value.string s) w mb m) (h : MetIs l k m) (s : ByteArray) :
    (Instr.lookup 140 (.map (some mb)) (.string s) false).run Tryz.prog w = .ok (.agg #[.string (metGet l k s).path, .int .i64 (metGet l k s).kind, .string (metGet l k s).target, .int .i64 (metGet l k s).mt.mode, .int .i64 (metGet l k s).mt.uid, .int .i64 (metGet l k s).mt.gid, .string (metGet l k s).mt.user, .string (metGet l k s).mt.group, .int .i64 (metGet l k s).mt.second, .int .i64 (metGet l k s).mt.nano, .slice (metGet l k s).da (metGet l k s).data.length (metGet l k s).dcap]) w := by
  by_cases hf : entFind (l.take k) s < k
  · exact hm.look_some keyOn_str (t := 140) (k := 9) (e := 26) Tryz.underlying140 Tryz.underlying9 (by rw [h s, if_pos hf]) false
  · rw [metGet_no hf]
    exact hm.look_none keyOn_str (t := 140) (k := 9) (e := 26) Tryz.underlying140 Tryz.underlying9 (by rw [h s, if_neg hf]) (Tryz.zeroValue26 _) false
set_option maxRecDepth 100000 in
set_option maxHeartbeats 4000000 in
theorem EntsCheck_at (b off cap : Nat) (l : List Ent) (w : World) (hM : MaxOk w) (hpos : 0 < l.length) (hle : l.length ≤ cap) (hm : cap ≤ maxLen) (hc : EntsAt w b off l) (ho : ∀ i, i < l.length → (ek l i).Ok maxLen w) :
    Calls Tryz.prog 46 #[.slice (some ⟨b, off, none⟩) l.length cap] w fun e w' => e = .returned (.int .i64 (entsFault l)) ∧ Below w.heap.size w w' := by
  have hm' := hm
  unfold maxLen at hm
  have HC := Lib.hid hc
  have HO := Lib.hid ho
  have HM := Lib.hid hM
  have HCAP := Lib.hid hm'
  clear hc ho hm' hM
  by_cases hmany : 40 < l.length
  · have HF := Lib.hid (entsFault_many hmany)
    go_enter Tryz.func46, Tryz.ntmps46
    go_wp2
    go_ret
    exact ⟨ret_i HF.out, Below.refl _ _⟩
  have hfew : l.length ≤ 40 := by omega
  clear hmany
  have HMS := Lib.hid (MapIs.made (fun s : ByteArray => Value.string s) w)
  have HMB := Lib.hid ((Below.refl w.heap.size w).alloc (Nat.le_refl _) (.map #[] 0))
  have hmm := @run_makeMap Tryz.prog
  go_enter Tryz.func46, Tryz.ntmps46
  go_wp2
  clear hmm
  generalize hmb : w.heap.size = mb at HMS
  have HMBE := Lib.hid hmb
  go_loopw [4, 5, 6, 7, 8, 15] (fun _ _ _ _ _ i wr => ∃ (k : Nat) (m : List (ByteArray × Value)), k ≤ l.length ∧ i = .int .i64 k ∧ Hid (∀ j, j < k → stepE l j = 0) ∧ Hid (Below w.heap.size w wr) ∧ Hid (MapIs (fun s : ByteArray => Value.string s) wr mb m) ∧ Hid (MetIs l k m)) (fun _ _ _ _ _ i _ => l.length - (intOf i).toNat)
  case atStart => exact ⟨0, [], by omega, rfl, Lib.hid fun j hj => absurd hj (by omega), HMB, HMS, Lib.hid (MetIs.start l)⟩
  case round =>
    obtain ⟨k, m, hk, rfl, HZ, HB, HMI, HFI⟩ := hrel
    by_cases hlt : k < l.length
    · obtain ⟨h0, h1, h2, h3, h4, h5, h6, h7, h8, h9, h10⟩ := (HC.out.below HB.out) k hlt
      have HX := Lib.hid ((HO.out k hlt).below HB.out)
      have HAT := Lib.hid (fun e => entsFault_at (e := e) hfew hlt HZ.out)
      have HMLT := Lib.hid HMI.out.lt
      by_cases hA : entFault (ek l k) = 0
      · have HA := Lib.hid hA
        clear hA
        go_wp2_with fail
        have HBX := Lib.hid (entAt_box wr (ek l k) 26)
        refine (entR_call _ _ (HM.out.below (HB.out.alloc HB.out.size _)) (HX.out.below ((Below.refl _ _).alloc (Nat.le_refl _) _))).mono ?_
        rintro e w1 ⟨rfl, hb⟩
        have HB1 := Lib.hid ((HB.out.alloc HB.out.size _).trans (hb.mono (by simp; exact Nat.le_succ_of_le HB.out.size)))
        have HBX1 := Lib.hid (HBX.out.below hb)
        have HM1 := Lib.hid (HMI.out.below (((Below.refl _ _).alloc (Nat.le_refl _) _).trans (hb.mono (by simp))) HMLT.out)
        have HMLT1 := Lib.hid HM1.out.lt
        rw [HA.out]
        clear hb h0 h1 h2 h3 h4 h5 h6 h7 h8 h9 h10
        generalize wr.heap.size = bx at *
        obtain ⟨g0, g1, g2, g3, g4, g5, g6, g7, g8, g9, g10⟩ := HBX1.out.zero
        have HPZ := Lib.hid (fun (j : Nat) (hj : j ≤ k) => show (ek l j).path.size ≤ 1048576 from Nat.le_trans (entFault_path (by
          rcases Nat.lt_or_ge j k with h | h
          · exact (stepE_zero (HZ.out j h)).1
          · rw [show j = k by omega]; exact HA.out)) (by decide))
        go_upto_region 10 with fail
        go_cut [15, 38] from 15 to 74 (fun c u wc => c = .int .i64 k ∧ u = .bool (ordBadE l k) ∧ Hid (Below w1.heap.size w1 wc))
        case first =>
          by_cases hk0 : k = 0
          · subst hk0
            go_wp2
            go_quiet (fail)
            go_wp2_with fail
            go_meet
            case rel => exact ⟨rfl, congrArg Value.bool (ordE_zero l).symm, Lib.hid (below_draws _ _ _)⟩
          · obtain ⟨q, rfl⟩ : ∃ q, k = q + 1 := ⟨k - 1, by omega⟩
            obtain ⟨p0, _⟩ := (HC.out.below HB1.out) q (by omega)
            have hwq : IntKind.i64.wrap (q : Int) = (q : Int) := by rw [IntKind.wrap_i64]; omega
            have hql : (q : Int) < (l.length : Int) := by omega
            go_wp2
            go_still_tail 11, (by kernel_rfl)
            go_wp2_with fail
            refine (Compare_any _ _ _ ((HM.out.below HB1.out).below (Below.refl _ _).drew) (HPZ.out q (by omega)) (HPZ.out (q + 1) (by omega))).mono ?_
            rintro e wc ⟨rfl, hb⟩
            have HBC := Lib.hid ((Below.refl w1.heap.size w1).drew.trans hb)
            clear hb
            go_wp2_with fail
            go_meet
            case rel => exact ⟨rfl, congrArg Value.bool (ordE_dec _ _), HBC⟩
        case rest =>
          obtain ⟨rfl, rfl, HBC⟩ := hcut
          have HB2 := Lib.hid (HB1.out.trans (HBC.out.mono HB1.out.size))
          have HBX2 := Lib.hid (HBX1.out.below HBC.out)
          have HM2 := Lib.hid (HM1.out.below HBC.out HMLT1.out)
          have HMLT2 := Lib.hid HM2.out.lt
          clear g0 g1 g2 g3 g4 g5 g6 g7 g8 g9 g10
          obtain ⟨g0, g1, g2, g3, g4, g5, g6, g7, g8, g9, g10⟩ := HBX2.out.zero
          by_cases hO : OrdOkE l k
          · have HOK := Lib.hid hO
            rw [ordBadE_f hO]
            clear hO
            have HUPC := Lib.hid (fun w : World => Up_any (ek l k).path w (Nat.le_trans (HPZ.out k (Nat.le_refl _)) (by decide)))
            have hlook := met_look HM2.out HFI.out (pathUp (ek l k).path)
            have HUP := Lib.hid (show UpOkE l k ↔ ((pathUp (ek l k).path).size ≠ 0 → (metGet l k (pathUp (ek l k).path)).kind = 2) from Iff.rfl)
            generalize hfu : metGet l k (pathUp (ek l k).path) = fu at hlook HUP
            clear hfu
            generalize pathUp (ek l k).path = up at *
            have hfld : ∀ w : World, (Instr.field 26 (.agg #[.string fu.path, .int .i64 fu.kind, .string fu.target, .int .i64 fu.mt.mode, .int .i64 fu.mt.uid, .int .i64 fu.mt.gid, .string fu.mt.user, .string fu.mt.group, .int .i64 fu.mt.second, .int .i64 fu.mt.nano, .slice fu.da fu.data.length fu.dcap]) 1).run Tryz.prog w = .ok (.int .i64 fu.kind) w := fun _ => rfl
            go_upto_region 13 with (go_at_call 114; refine (HUPC.out _).mono ?_; rintro e w' ⟨rfl, rfl⟩)
            go_cut [15, 50] from 15 to 74 (fun c u wc2 => c = .int .i64 k ∧ u = .bool (!upOkE l k) ∧ wc2 = wc)
            case first =>
              by_cases h0 : up.size = 0
              · have HU := Lib.hid (upOkE_t (HUP.out.2 fun e => absurd h0 e))
                have he := empty_t h0
                clear h0
                go_wp2_with fail
                go_meet
                case rel => exact ⟨rfl, by rw [HU.out]; rfl, rfl⟩
              · have he := empty_f h0
                by_cases hkd : fu.kind = 2
                · have HU := Lib.hid (upOkE_t (HUP.out.2 fun e => hkd))
                  have hd2 : (fu.kind != 2) = false := by rw [hkd]; rfl
                  clear hkd h0
                  go_wp2_with fail
                  go_meet
                  case rel => exact ⟨rfl, by rw [HU.out]; rfl, rfl⟩
                · have HU := Lib.hid (upOkE_f (fun e => hkd (HUP.out.1 e h0)))
                  have hd2 : (fu.kind != 2) = true := by rw [bne_iff_ne]; exact hkd
                  clear hkd h0
                  go_wp2_with fail
                  go_meet
                  case rel => exact ⟨rfl, by rw [HU.out]; rfl, rfl⟩
            case rest =>
              obtain ⟨rfl, rfl, hwz⟩ := hcut
              subst hwz
              clear HUP hlook
              by_cases hU : UpOkE l k
              · rw [upOkE_t hU]
                have HUO := Lib.hid hU
                clear hU
                have hlook := met_look HM2.out HFI.out (ek l k).target
                have HLK := Lib.hid (show LinkOkE l k ↔ ((ek l k).kind = 4 → (metGet l k (ek l k).target).kind = 1 ∧ (metGet l k (ek l k).target).mt = (ek l k).mt) from Iff.rfl)
                generalize metGet l k (ek l k).target = fe at hlook HLK
                have hbz := HBX2.out.lt
                have HB5 := Lib.hid (HB2.out.alloc HB2.out.size (.cells #[.string fe.path, .int .i64 fe.kind, .string fe.target, .int .i64 fe.mt.mode, .int .i64 fe.mt.uid, .int .i64 fe.mt.gid, .string fe.mt.user, .string fe.mt.group, .int .i64 fe.mt.second, .int .i64 fe.mt.nano, .slice fe.da fe.data.length fe.dcap] 26))
                have HBX5 := Lib.hid (HBX2.out.below ((Below.refl _ _).alloc (Nat.le_refl _) (.cells #[.string fe.path, .int .i64 fe.kind, .string fe.target, .int .i64 fe.mt.mode, .int .i64 fe.mt.uid, .int .i64 fe.mt.gid, .string fe.mt.user, .string fe.mt.group, .int .i64 fe.mt.second, .int .i64 fe.mt.nano, .slice fe.da fe.data.length fe.dcap] 26)))
                have HM5 := Lib.hid (HM2.out.below ((Below.refl _ _).alloc (Nat.le_refl _) (.cells #[.string fe.path, .int .i64 fe.kind, .string fe.target, .int .i64 fe.mt.mode, .int .i64 fe.mt.uid, .int .i64 fe.mt.gid, .string fe.mt.user, .string fe.mt.group, .int .i64 fe.mt.second, .int .i64 fe.mt.nano, .slice fe.da fe.data.length fe.dcap] 26)) HMLT2.out)
                have HFX := Lib.hid (entAt_box wc fe 26)
                go_upto_region 16 with fail
                go_cut [15, 69] from 15 to 74 (fun c u wd => c = .int .i64 k ∧ u = .bool (!linkOkE l k) ∧ wd = wc.alloc (.cells #[.string fe.path, .int .i64 fe.kind, .string fe.target, .int .i64 fe.mt.mode, .int .i64 fe.mt.uid, .int .i64 fe.mt.gid, .string fe.mt.user, .string fe.mt.group, .int .i64 fe.mt.second, .int .i64 fe.mt.nano, .slice fe.da fe.data.length fe.dcap] 26))
                case first =>
                  by_cases hk4 : (ek l k).kind = 4
                  · have hd4 : ((ek l k).kind == 4) = true := by rw [hk4]; rfl
                    by_cases hkd : fe.kind = 1
                    · have hd2 : (fe.kind != 1) = false := by rw [hkd]; rfl
                      by_cases hmt : fe.mt = (ek l k).mt
                      · have HU := Lib.hid (linkOkE_t (HLK.out.2 fun _ => ⟨hkd, hmt⟩))
                        have e0 := congrArg Meta.mode hmt
                        have e1 := congrArg Meta.uid hmt
                        have e2 := congrArg Meta.gid hmt
                        have e3 : fe.mt.user.toList = (ek l k).mt.user.toList := by rw [hmt]
                        have e4 : fe.mt.group.toList = (ek l k).mt.group.toList := by rw [hmt]
                        have e5 := congrArg Meta.second hmt
                        have e6 := congrArg Meta.nano hmt
                        clear hmt hk4 hkd
                        go_wp2_with fail
                        go_meet
                        case rel => exact ⟨rfl, by rw [HU.out]; rfl, by rw [e0, e1, e2, e5, e6]⟩
                      · have HU := Lib.hid (linkOkE_f (fun e => hmt (HLK.out.1 e hk4).2))
                        clear hk4 hkd
                        rcases meta_casesE hmt with e0 | ⟨e0, e1⟩ | ⟨e0, e1, e2⟩ | ⟨e0, e1, e2, e3⟩ | ⟨e0, e1, e2, e3, e4⟩ | ⟨e0, e1, e2, e3, e4, e5⟩ | ⟨e0, e1, e2, e3, e4, e5, e6⟩
                        all_goals clear hmt
                        all_goals go_wp2_with fail
                        all_goals go_meet
                        all_goals exact ⟨rfl, by rw [HU.out]; rfl, by first | rfl | rw [e0, e1, e2, e5] | rw [e0, e1, e2] | rw [e0, e1] | rw [e0]⟩
                    · have HU := Lib.hid (linkOkE_f (fun e => hkd (HLK.out.1 e hk4).1))
                      have hd2 : (fe.kind != 1) = true := by rw [bne_iff_ne]; exact hkd
                      clear hk4 hkd
                      go_wp2_with fail
                      go_meet
                      case rel => exact ⟨rfl, by rw [HU.out]; rfl, rfl⟩
                  · have HU := Lib.hid (linkOkE_t (HLK.out.2 fun e => absurd e hk4))
                    have hd4 : ((ek l k).kind == 4) = false := by rw [beq_eq_false_iff_ne]; exact hk4
                    clear hk4
                    go_wp2_with fail
                    go_meet
                    case rel => exact ⟨rfl, by rw [HU.out]; rfl, rfl⟩
                case rest =>
                  obtain ⟨rfl, rfl, hwx⟩ := hcut
                  subst hwx
                  by_cases hL : LinkOkE l k
                  · rw [linkOkE_t hL]
                    have HS := Lib.hid (stepE_ok HA.out HOK.out HUO.out hL)
                    have HFN := Lib.hid (HFI.out.put hlt (zsE_next HZ.out HS.out))
                    have HWB := Lib.hid (show mb ≥ w.heap.size by rw [HMBE.out]; exact Nat.le_refl _)
                    obtain ⟨wp, hput, hmp, hgr⟩ := MapIs.put HM5.out keyOn_str (t := 140) (k := 9) (e := 26) Tryz.underlying140 Tryz.underlying9 (ek l k).path (ek l k).val
                    have HMP := Lib.hid hmp
                    have HB6 := Lib.hid (HB5.out.grown hgr HB5.out.size (fun q hq => by cases hq; exact HWB.out))
                    clear hL hmp hgr hlook
                    go_wp2
                    go_roundw
                    case rel => exact ⟨k + 1, _, by omega, by go_num, Lib.hid (zsE_next HZ.out HS.out), HB6, HMP, HFN⟩
                    case measure => simp [intOf]; omega
                  · rw [linkOkE_f hL]
                    have HF := Lib.hid (HAT.out 11 (stepE_link HA.out HOK.out HUO.out hL) (by decide))
                    clear hL
                    go_wp2
                    go_ret
                    exact ⟨ret_i HF.out, HB5.out⟩
              · have HF := Lib.hid (HAT.out 10 (stepE_up HA.out HOK.out hU) (by decide))
                rw [upOkE_f hU]
                clear hU
                go_wp2
                go_ret
                exact ⟨ret_i HF.out, HB2.out⟩
          · have HF := Lib.hid (HAT.out 6 (stepE_ord HA.out hO) (by decide))
            rw [ordBadE_t hO]
            clear hO
            go_wp2
            go_ret
            exact ⟨ret_i HF.out, HB2.out⟩
      · have HF := Lib.hid (HAT.out _ (stepE_ent hA) hA)
        go_wp2_with fail
        refine (entR_call _ _ (HM.out.below (HB.out.alloc HB.out.size _)) (HX.out.below ((Below.refl _ _).alloc (Nat.le_refl _) _))).mono ?_
        rintro e w1 ⟨rfl, hb⟩
        have HB1 := Lib.hid ((HB.out.alloc HB.out.size _).trans (hb.mono (by simp; exact Nat.le_succ_of_le HB.out.size)))
        clear hb h0 h1 h2 h3 h4 h5 h6 h7 h8 h9 h10
        generalize entFault (ek l k) = q at *
        go_wp2
        go_ret
        exact ⟨ret_i HF.out, HB1.out⟩
    · obtain rfl : k = l.length := by omega
      have HF := Lib.hid (entsFault_ok hfew HZ.out)
      go_wp2
      go_ret
      exact ⟨ret_i HF.out, HB.out⟩
set_option maxRecDepth 100000 in
theorem EntsCheck_nil (a : Option Addr) (cap : Nat) (w : World) :
    Calls Tryz.prog 46 #[.slice a 0 cap] w fun e w' => e = .returned (.int .i64 0) ∧ Below w.heap.size w w' := by
  have HMB := Lib.hid ((Below.refl w.heap.size w).alloc (Nat.le_refl _) (.map #[] 0))
  have hmm := @run_makeMap Tryz.prog
  go_enter Tryz.func46, Tryz.ntmps46
  go_wp2
  clear hmm
  go_loop [4, 5, 6, 7, 8, 15] (fun _ _ _ _ _ i => i = .int .i64 0) (fun _ _ _ _ _ _ => 0)
  case atStart => rfl
  case round =>
    obtain rfl := hrel
    go_wp2
    go_ret
    exact ⟨rfl, HMB.out⟩
theorem entsFault_nil : entsFault [] = 0 := entsFault_ok (by simp) (fun j hj => absurd hj (by simp))
theorem EntsCheck_any (v : Value) (l : List Ent) (w : World) (hM : MaxOk w) (h : SliceC maxLen 11 (EntC maxLen) w [v] l) :
    Calls Tryz.prog 46 #[v] w fun e w' => e = .returned (.int .i64 (entsFault l)) ∧ Below w.heap.size w w' := by
  rcases ents_cases h with ⟨a, cap, rfl, rfl, _⟩ | ⟨b, off, cap, rfl, h1, h2, h3, _, h4, h5⟩
  · rw [entsFault_nil]; exact EntsCheck_nil a cap w
  · exact EntsCheck_at b off cap l w hM h1 h2 h3 h4 h5
theorem EntsFault_any (v : Value) (l : List Ent) (w : World) (h : SliceC maxLen 11 (EntC maxLen) w [v] l) :
    Calls Tryz.prog 48 #[v] w fun e w' => e = .returned (.int .i64 (entsFault l)) ∧ Below w.heap.size w w' := by
  rcases ents_cases h with ⟨a, cap, rfl, rfl, _⟩ | ⟨b, off, cap, rfl, h1, h2, h3, _, h4, h5⟩
  · rw [entsFault_nil]
    exact (EntsFault_nil a cap w).mono fun e w' ⟨h1, h2⟩ => ⟨h1, by rw [← h2]; exact Below.refl _ _⟩
  · exact EntsFault_at b off cap l w h1 h2 h3 h4 h5
end Go.Proofs.YtaffgndickdbiaaGreatDoor
/-
  Slices of ints of the call's own; two of them compared.
-/
namespace Go.Creel
set_option linter.unusedVariables false
open Go.RowKit
/-- A slice of ints of the call's own, nil or not. -/
def OwnIs (t : TypeId) (w : World) (B : Nat) (v : Value) (l : List Int) : Prop := w.ownsRow B t 1 v l.length (l.map (Value.int .i64))
def pieceI (l : List Int) (k : Nat) : Int := l.getD k 0
theorem pieceI_eq {l : List Int} {k : Nat} (h : k < l.length) : pieceI l k = l[k] := by simp [pieceI, List.getD_eq_getElem?_getD, List.getElem?_eq_getElem h]
theorem OwnIs.cell {t : TypeId} {w : World} {B g cap : Nat} {l : List Int} (h : OwnIs t w B (.slice (some ⟨g, 0, none⟩) l.length cap) l) {j : Nat} (hj : j < l.length) : w.cell? ⟨g, j, none⟩ = some (.int .i64 (pieceI l j)) := by
  rw [World.ownsRow.cellAt h j (by omega), pieceI_eq hj]
  simp [List.getElem?_eq_getElem hj]
theorem OwnIs.form {t : TypeId} {w : World} {B : Nat} {v : Value} {l : List Int} (h : OwnIs t w B v l) : (v = .slice none 0 0 ∧ l = []) ∨ ∃ g cap, v = .slice (some ⟨g, 0, none⟩) l.length cap ∧ B ≤ g ∧ g < w.heap.size ∧ l.length ≤ cap ∧ cap ≤ maxLen := by
  rcases h.2 with ⟨rfl, h0⟩ | ⟨g, cap, cur, rfl, hbg, hg, hnc, hcm, hcs, htake⟩
  · exact .inl ⟨rfl, List.eq_nil_of_length_eq_zero h0⟩
  · refine .inr ⟨g, cap, rfl, hbg, ?_, hnc, hcm⟩
    rcases Nat.lt_or_ge g w.heap.size with h' | h'
    · exact h'
    · rw [Array.getElem?_eq_none h'] at hg; cases hg
theorem OwnIs.below {t : TypeId} {w w' : World} {B : Nat} {v : Value} {l : List Int} (h : OwnIs t w B v l) (hb : Below w.heap.size w w') : OwnIs t w' B v l := by
  refine ⟨h.1, ?_⟩
  rcases h.2 with h0 | ⟨g, cap, cur, hv, hbg, hg, r⟩
  · exact .inl h0
  · refine .inr ⟨g, cap, cur, hv, hbg, ?_, r⟩
    rw [hb.block g]
    · exact hg
    · rcases Nat.lt_or_ge g w.heap.size with h' | h'
      · exact h'
      · rw [Array.getElem?_eq_none h'] at hg; cases hg
theorem OwnIs.app {t : TypeId} {w' : World} {B : Nat} {v' : Value} {l m : List Int} (h : w'.ownsRow B t 1 v' (l.length + m.length) (l.map (Value.int .i64) ++ m.map (Value.int .i64))) : OwnIs t w' B v' (l ++ m) := by
  unfold OwnIs
  rw [List.length_append, List.map_append]
  exact h
theorem OwnIs.mono {t : TypeId} {w : World} {B B' : Nat} {v : Value} {l : List Int} (h : OwnIs t w B v l) (hb : B' ≤ B) : OwnIs t w B' v l := by
  rcases h.2 with ⟨rfl, h0⟩ | ⟨g, cap, cur, rfl, hbg, hg, hnc, hcm, hcs, htake⟩
  · exact ⟨h.1, .inl ⟨rfl, h0⟩⟩
  · exact ⟨h.1, .inr ⟨g, cap, cur, rfl, Nat.le_trans hb hbg, hg, hnc, hcm, hcs, htake⟩⟩
/-- a new slice of ints and a number -/
def RetIE (t : TypeId) (w : World) (p : List Int × Int) (e : Ending) (w' : World) : Prop := ∃ v, e = .returned (.tuple #[v, .int .i64 p.2]) ∧ OwnIs t w' w.heap.size v p.1 ∧ Below w.heap.size w w'
end Go.Creel
namespace Go.Proofs.YtaffgndickdbiaaGreatDoor
set_option linter.unusedVariables false
open Go.Creel Go.RowKit
theorem info_int : (Tryz.prog.info? 3).map (fun i => (i.zero, i.size, i.bytes)) = some (some (.int .i64 0), 1, 8) := by kernel_rfl
theorem slice_formI {t : TypeId} {w : World} {B : Nat} {v : Value} {l : List Int} (h : OwnIs t w B v l) : ∃ p cap, v = .slice p l.length cap ∧ (0 < l.length → ∃ g, p = some ⟨g, 0, none⟩) := by
  rcases h.form with ⟨rfl, rfl⟩ | ⟨g, cap, rfl, hgB, hgw, hcap, hcapm⟩
  · exact ⟨none, 0, rfl, fun h => absurd h (by simp)⟩
  · exact ⟨_, _, rfl, fun _ => ⟨g, rfl⟩⟩
set_option maxRecDepth 100000 in
theorem sameInts_eq (w : World) (B C : Nat) (v u : Value) (l : List Int) (hl : l.length ≤ 8000000000) (hv : OwnIs 3 w B v l) (hu : OwnIs 3 w C u l) :
    Calls Tryz.prog 49 #[v, u] w fun e w' => e = .returned (.bool true) ∧ Below w.heap.size w w' := by
  obtain ⟨p, cap, rfl, hp⟩ := slice_formI hv
  obtain ⟨q, caq, rfl, hq⟩ := slice_formI hu
  have HV := Lib.hid hv
  have HU := Lib.hid hu
  have HP := Lib.hid hp
  have HQ := Lib.hid hq
  clear hv hu hp hq
  go_enter Tryz.func49, Tryz.ntmps49
  go_wp2
  go_loopw [5, 13] (fun _ i wr => ∃ k : Nat, k ≤ l.length ∧ i = .int .i64 k ∧ Below w.heap.size w wr) (fun _ i _ => l.length - (intOf i).toNat)
  case atStart => exact ⟨0, by omega, rfl, Below.refl _ _⟩
  case round =>
    obtain ⟨k, hk, rfl, hb⟩ := hrel
    by_cases hlt : k < l.length
    · obtain ⟨g, rfl⟩ := HP.out (by omega)
      obtain ⟨g2, rfl⟩ := HQ.out (by omega)
      have hc := (HV.out.below hb).cell hlt
      have hc2 := (HU.out.below hb).cell hlt
      have HBB := Lib.hid hb
      clear hb
      generalize pieceI l k = x at *
      have hd1 := hc
      have hd2 := hc2
      have he : (x == x) = true := by simp
      go_wp2
      go_quiet (fail)
      go_wp2
      go_roundw
      case rel => exact ⟨k + 1, by omega, by go_num, HBB.out.trans (below_draws _ _ _)⟩
      case measure => simp [intOf]; omega
    · obtain rfl : k = l.length := by omega
      have HBB := Lib.hid hb
      clear hb
      go_wp2
      go_ret
      exact ⟨rfl, HBB.out⟩
set_option maxRecDepth 100000 in
theorem lawInts_eq (w : World) (B C : Nat) (v u : Value) (l : List Int) (hl : l.length ≤ 8000000000) (hv : OwnIs 3 w B v l) (hu : OwnIs 3 w C u l) :
    Calls Tryz.prog 18 #[v, u] w fun e w' => e = .returned (.bool true) ∧ Below w.heap.size w w' := by
  have HC := Lib.hid (sameInts_eq w B C v u l hl hv hu)
  obtain ⟨p, cap, rfl, _⟩ := slice_formI hv
  obtain ⟨q, caq, rfl, _⟩ := slice_formI hu
  clear hv hu hl
  go_enter Tryz.func18, Tryz.ntmps18
  go_wp2_with fail
  refine HC.out.mono ?_
  rintro e w1 ⟨rfl, hb⟩
  have HB := Lib.hid hb
  clear hb
  go_wp2
  go_ret
  exact ⟨rfl, HB.out⟩
end Go.Proofs.YtaffgndickdbiaaGreatDoor
/-
  Archives: the plain words.
-/
namespace Go.Creel
set_option linter.unusedVariables false
set_option linter.unusedSimpArgs false
open Go.RowKit
/-- the members' bytes, one behind the other -/
noncomputable def arcBody (l : List Ent) : List UInt8 := l.flatMap memB
theorem arcBody_nil : arcBody [] = [] := rfl
theorem arcBody_app (l m : List Ent) : arcBody (l ++ m) = arcBody l ++ arcBody m := List.flatMap_append
noncomputable def arcTo (l : List Ent) (k : Nat) : List UInt8 := arcBody (l.take k)
theorem arcTo_zero (l : List Ent) : arcTo l 0 = [] := rfl
theorem arcTo_all (l : List Ent) : arcTo l l.length = arcBody l := by unfold arcTo; rw [List.take_length]
theorem arcTo_succ {l : List Ent} {k : Nat} (h : k < l.length) : arcTo l (k + 1) = arcTo l k ++ memB (ek l k) := by
  unfold arcTo
  rw [List.take_add_one, List.getElem?_eq_getElem h, arcBody_app, ek_eq h]
  simp [arcBody]
noncomputable def arcFrom (l : List Ent) (k : Nat) : List UInt8 := arcBody (l.drop k)
theorem arcFrom_all (l : List Ent) : arcFrom l l.length = [] := by unfold arcFrom; rw [List.drop_length]; rfl
theorem arcFrom_zero (l : List Ent) : arcFrom l 0 = arcBody l := rfl
theorem arcFrom_pred {l : List Ent} {k : Nat} (h : k < l.length) : arcFrom l k = memB (ek l k) ++ arcFrom l (k + 1) := by
  unfold arcFrom
  rw [List.drop_eq_getElem_cons h, ek_eq h]
  rfl
theorem memB_le {x : Ent} (h : entFault x = 0) : (memB x).length ≤ 30000 := by
  have h1 := memPre_le (memRecs x)
  have h2 := memOwn_le (memHead x) x.data
  have h3 := (entRight h).data
  unfold memB
  simp only [List.length_append]; omega
theorem arcBody_le : ∀ {l : List Ent}, (∀ x ∈ l, entFault x = 0) → (arcBody l).length ≤ 30000 * l.length
  | [], _ => by simp [arcBody]
  | x :: l, h => by
    have h1 := memB_le (h x (by simp))
    have h2 := arcBody_le (l := l) (fun y hy => h y (by simp [hy]))
    simp only [arcBody, List.flatMap_cons, List.length_append, List.length_cons] at h2 ⊢
    omega
theorem ents_each {l : List Ent} (h : entsFault l = 0) : ∀ x ∈ l, entFault x = 0 := by
  intro x hx
  obtain ⟨k, hk, rfl⟩ := List.mem_iff_getElem.1 hx
  have := (stepE_zero ((entsFault_all h).2 k hk)).1
  rwa [ek_eq hk] at this
theorem arcTo_le {l : List Ent} (h : entsFault l = 0) (k : Nat) : (arcTo l k).length ≤ 1200000 := by
  have h1 := (entsFault_all h).1
  have h2 := arcBody_le (l := l.take k) (fun x hx => ents_each h x (List.mem_of_mem_take hx))
  have h3 : (l.take k).length ≤ l.length := List.length_take_le' _ _
  unfold arcTo; omega
theorem arcFrom_le {l : List Ent} (h : entsFault l = 0) (k : Nat) : (arcFrom l k).length ≤ 1200000 := by
  have h1 := (entsFault_all h).1
  have h2 := arcBody_le (l := l.drop k) (fun x hx => ents_each h x (List.mem_of_mem_drop hx))
  have h3 : (l.drop k).length ≤ l.length := by rw [List.length_drop]; omega
  unfold arcFrom; omega
/-- what an archive ends with -/
def zeros1024 : List UInt8 := List.replicate 1024 0
theorem zeros1024_len : zeros1024.length = 1024 := List.length_replicate
noncomputable def arcOf (l : List Ent) : List UInt8 × Int := if entsFault l = 0 then (arcBody l ++ zeros1024, 0) else ([], entsFault l)
theorem arcOf_ok {l : List Ent} (h : entsFault l = 0) : arcOf l = (arcBody l ++ zeros1024, 0) := if_pos h
theorem arcOf_bad {l : List Ent} (h : ¬ entsFault l = 0) : arcOf l = ([], entsFault l) := if_neg h
noncomputable def placeTo (l : List Ent) (k : Nat) : List Int := (List.range (k + 1)).map fun j => ((arcTo l j).length : Int)
theorem placeTo_zero (l : List Ent) : placeTo l 0 = [0] := by simp [placeTo, arcTo_zero]
theorem placeTo_succ (l : List Ent) (k : Nat) : placeTo l (k + 1) = placeTo l k ++ [((arcTo l (k + 1)).length : Int)] := by
  unfold placeTo; rw [List.range_succ, List.map_append]; rfl
theorem placeTo_len (l : List Ent) (k : Nat) : (placeTo l k).length = k + 1 := by simp [placeTo]
noncomputable def placesOf (l : List Ent) : List Int × Int := if entsFault l = 0 then (placeTo l l.length, 0) else ([], entsFault l)
theorem placesOf_ok {l : List Ent} (h : entsFault l = 0) : placesOf l = (placeTo l l.length, 0) := if_pos h
theorem placesOf_bad {l : List Ent} (h : ¬ entsFault l = 0) : placesOf l = ([], entsFault l) := if_neg h
theorem metGet_take {l : List Ent} {i j : Nat} (h : j < i) (s : ByteArray) : metGet (l.take i) j s = metGet l j s := by
  unfold metGet
  have e : (l.take i).take j = l.take j := by rw [List.take_take]; congr 1; omega
  rw [e]
  split
  · rename_i hf
    exact ek_take (by omega)
  · rfl
theorem stepE_take {l : List Ent} {i j : Nat} (h : j < i) : stepE (l.take i) j = stepE l j := by
  have e1 : ek (l.take i) j = ek l j := ek_take h
  have e2 : ek (l.take i) (j - 1) = ek l (j - 1) := ek_take (by omega)
  unfold stepE OrdOkE UpOkE LinkOkE
  rw [e1, e2, metGet_take h, metGet_take h]
theorem entsFault_take {l : List Ent} (h : entsFault l = 0) (i : Nat) : entsFault (l.take i) = 0 := by
  obtain ⟨h1, h2⟩ := entsFault_all h
  have hl : (l.take i).length ≤ l.length := List.length_take_le' _ _
  refine entsFault_ok (by omega) fun j hj => ?_
  have hj2 : j < i := by rw [List.length_take] at hj; omega
  rw [stepE_take hj2]
  exact h2 j (by omega)
theorem ents_take {w : World} {a : Option Addr} {n cap i : Nat} {l : List Ent} (h : SliceC maxLen 11 (EntC maxLen) w [.slice a n cap] l) (hi : i ≤ l.length) : SliceC maxLen 11 (EntC maxLen) w [.slice a i cap] (l.take i) := by
  obtain ⟨a', cap', hv, h1, h2, h3, h4, h5⟩ := h
  simp only [List.cons.injEq, Value.slice.injEq, and_true] at hv
  obtain ⟨rfl, rfl, rfl⟩ := hv
  have hl : (l.take i).length = i := by rw [List.length_take]; omega
  refine ⟨a, cap, by rw [hl], by omega, h2, by omega, h4, fun hp => ?_⟩
  obtain ⟨b, off, e, hc⟩ := h5 (by omega)
  refine ⟨b, off, e, fun k hk => ?_⟩
  obtain ⟨c, hcl, hcc, hE⟩ := hc k (by omega)
  exact ⟨c, hcl, hcc, by rw [List.getElem_take]; exact hE⟩
end Go.Creel
/-
  strings.Trim with a cutset of one byte.
-/
namespace Go.Creel
set_option linter.unusedVariables false
def ltrimL (c : UInt8) (l : List UInt8) : List UInt8 := l.dropWhile (· == c)
def rtrimL (c : UInt8) (l : List UInt8) : List UInt8 := (l.reverse.dropWhile (· == c)).reverse
theorem byt_zero_cons {t : ByteArray} (h : 0 < t.size) : ∃ x l, t.data.toList = x :: l ∧ byt t 0 = x.toNat := by
  cases hl : t.data.toList with
  | nil =>
    have : t.size = 0 := by rw [Lib.size_eq t, hl]; rfl
    omega
  | cons x l => exact ⟨x, l, rfl, by simp [byt, hl]⟩
theorem byt_last_snoc {t : ByteArray} (h : 0 < t.size) : ∃ l x, t.data.toList = l ++ [x] ∧ byt t (t.size - 1) = x.toNat := by
  have hs : t.size = t.data.toList.length := Lib.size_eq t
  rcases List.eq_nil_or_concat t.data.toList with e | ⟨l, x, e⟩
  · have h0 : t.size = 0 := by rw [hs, e]; rfl
    omega
  · rw [List.concat_eq_append] at e
    refine ⟨l, x, e, ?_⟩
    have hl : t.size = l.length + 1 := by rw [hs, e]; simp
    unfold byt
    rw [e, hl]
    simp
theorem ltrim_step {c : UInt8} {t : ByteArray} (h : 0 < t.size) (hc : byt t 0 = c.toNat) : ltrimL c (t.extract 1 t.size).data.toList = ltrimL c t.data.toList := by
  obtain ⟨x, l, hl, hx⟩ := byt_zero_cons h
  have e : x = c := UInt8.toNat_inj.1 (by omega)
  have h2 : (t.extract 1 t.size).data.toList = l := by
    have hs : t.size = l.length + 1 := by rw [Lib.size_eq t, hl]; simp
    rw [Lib.extract_data, hl, hs]
    simp
  rw [h2, hl, e]
  simp [ltrimL]
theorem ltrim_stop {c : UInt8} {t : ByteArray} (h : t.size = 0 ∨ byt t 0 ≠ c.toNat) : ltrimL c t.data.toList = t.data.toList := by
  by_cases h0 : t.size = 0
  · have : t.data.toList = [] := List.eq_nil_of_length_eq_zero ((Lib.size_eq t).symm.trans h0)
    rw [this]; rfl
  · obtain ⟨x, l, hl, hx⟩ := byt_zero_cons (Nat.pos_of_ne_zero h0)
    have hne : x ≠ c := fun e => by rcases h with h | h; exact h0 h; exact h (by rw [hx, e])
    rw [hl]
    simp [ltrimL, hne]
theorem extract_init (t : ByteArray) {l : List UInt8} {x : UInt8} (hl : t.data.toList = l ++ [x]) : (t.extract 0 (t.size - 1)).data.toList = l := by
  have hs : t.size = l.length + 1 := by rw [Lib.size_eq t, hl]; simp
  rw [Lib.extract_data, hl, hs]
  simp
theorem rtrim_step {c : UInt8} {t : ByteArray} (h : 0 < t.size) (hc : byt t (t.size - 1) = c.toNat) : rtrimL c (t.extract 0 (t.size - 1)).data.toList = rtrimL c t.data.toList := by
  obtain ⟨l, x, hl, hx⟩ := byt_last_snoc h
  have e : x = c := UInt8.toNat_inj.1 (by omega)
  rw [extract_init t hl, hl, e]
  simp [rtrimL]
theorem rtrim_stop {c : UInt8} {t : ByteArray} (h : t.size = 0 ∨ byt t (t.size - 1) ≠ c.toNat) : rtrimL c t.data.toList = t.data.toList := by
  by_cases h0 : t.size = 0
  · have : t.data.toList = [] := List.eq_nil_of_length_eq_zero ((Lib.size_eq t).symm.trans h0)
    rw [this]; rfl
  · obtain ⟨l, x, hl, hx⟩ := byt_last_snoc (Nat.pos_of_ne_zero h0)
    have hne : x ≠ c := fun e => by rcases h with h | h; exact h0 h; exact h (by rw [hx, e])
    rw [hl]
    simp [rtrimL, hne]
theorem dropWhile_all {c : UInt8} : ∀ {l : List UInt8}, l.dropWhile (· == c) = [] ↔ ∀ x ∈ l, x = c
  | [] => by simp
  | a :: l => by
    by_cases h : a = c
    · subst h
      simp only [List.dropWhile_cons, beq_self_eq_true, if_true]
      rw [dropWhile_all]
      simp
    · simp [h]
/-- nothing is left just if all bytes are c -/
theorem trim_empty {c : UInt8} {l : List UInt8} : ltrimL c (rtrimL c l) = [] ↔ ∀ x ∈ l, x = c := by
  constructor
  · intro h
    have h1 := dropWhile_all.1 h
    have h2 : l.reverse.dropWhile (· == c) = [] := by
      cases hd : l.reverse.dropWhile (· == c) with
      | nil => rfl
      | cons a r =>
        exfalso
        have ha : a ∈ rtrimL c l := by simp [rtrimL, hd]
        have hac := h1 a ha
        have hh := List.head?_dropWhile_not (p := (· == c)) (l := l.reverse)
        rw [hd] at hh
        simp at hh
        exact hh hac
    intro x hx
    exact dropWhile_all.1 h2 x (by simpa using hx)
  · intro h
    have h2 : rtrimL c l = [] := by
      unfold rtrimL
      rw [dropWhile_all.2 (fun x hx => h x (by simpa using hx))]
      rfl
    rw [h2]; rfl
theorem ltrim_length (c : UInt8) (l : List UInt8) : (ltrimL c l).length ≤ l.length := by
  unfold ltrimL
  exact (List.dropWhile_sublist _).length_le
theorem rtrim_length (c : UInt8) (l : List UInt8) : (rtrimL c l).length ≤ l.length := by
  unfold rtrimL
  have := (List.dropWhile_sublist (p := (· == c)) (l := l.reverse)).length_le
  simpa using this
end Go.Creel
namespace Go.Proofs.YtaffgndickdbiaaGreatDoor
set_option linter.unusedVariables false
open Go.Creel Go.RowKit
set_option maxRecDepth 100000 in
theorem trimLeftByte_any (s : ByteArray) (c : UInt8) (n : Int) (hn : n = c.toNat) (w : World) (hs : s.size ≤ maxLen) :
    Calls Tryz.prog 189 #[.string s, .int .u8 n] w fun e w' => e = .returned (.string (ofL (ltrimL c s.data.toList))) ∧ w = w' := by
  unfold maxLen at hs
  have HN := Lib.hid hn
  clear hn
  go_enter Tryz.func189, Tryz.ntmps189
  go_wp2
  go_loop [0] (fun v => ∃ t : ByteArray, v = .string t ∧ t.size ≤ s.size ∧ Hid (ltrimL c t.data.toList = ltrimL c s.data.toList)) (fun v => slen v)
  case atStart => exact ⟨s, rfl, Nat.le_refl _, rfl⟩
  case round =>
    obtain ⟨t, rfl, ht, HT⟩ := hrel
    by_cases h0 : 0 < t.size
    · have HB := Lib.hid (byt_get t 0 h0)
      have hb' : t[0].toNat < 256 := UInt8.toNat_lt _
      by_cases hc : byt t 0 = c.toNat
      · have hq : (((t[0].toNat : Nat) : Int) == n) = true := by rw [HN.out, HB.out, hc]; simp
        have HS := Lib.hid (ltrim_step h0 hc)
        clear hc
        go_wp2
        go_round
        case rel => exact ⟨_, rfl, by simp; omega, HS.out.trans HT.out⟩
        case measure => simp [slen]; omega
      · have hq : (((t[0].toNat : Nat) : Int) == n) = false := by rw [HN.out, HB.out, beq_eq_false_iff_ne]; omega
        have HS := Lib.hid (ltrim_stop (c := c) (t := t) (.inr hc))
        clear hc
        go_wp2
        go_ret
        exact ⟨ret_s (by rw [← HT.out, HS.out, ofL_of]), rfl⟩
    · have HS := Lib.hid (ltrim_stop (c := c) (t := t) (.inl (by omega)))
      go_wp2
      go_ret
      exact ⟨ret_s (by rw [← HT.out, HS.out, ofL_of]), rfl⟩
set_option maxRecDepth 100000 in
theorem trimRightByte_any (s : ByteArray) (c : UInt8) (n : Int) (hn : n = c.toNat) (w : World) (hs : s.size ≤ maxLen) :
    Calls Tryz.prog 190 #[.string s, .int .u8 n] w fun e w' => e = .returned (.string (ofL (rtrimL c s.data.toList))) ∧ w = w' := by
  unfold maxLen at hs
  have HN := Lib.hid hn
  clear hn
  go_enter Tryz.func190, Tryz.ntmps190
  go_wp2
  go_loop [0] (fun v => ∃ t : ByteArray, v = .string t ∧ t.size ≤ s.size ∧ Hid (rtrimL c t.data.toList = rtrimL c s.data.toList)) (fun v => slen v)
  case atStart => exact ⟨s, rfl, Nat.le_refl _, rfl⟩
  case round =>
    obtain ⟨t, rfl, ht, HT⟩ := hrel
    by_cases h0 : 0 < t.size
    · have h1 : t.size - 1 < t.size := by omega
      have HB := Lib.hid (byt_get t (t.size - 1) h1)
      have hb' : t[t.size - 1].toNat < 256 := UInt8.toNat_lt _
      by_cases hc : byt t (t.size - 1) = c.toNat
      · have hq : (((t[t.size - 1].toNat : Nat) : Int) == n) = true := by rw [HN.out, HB.out, hc]; simp
        have HS := Lib.hid (rtrim_step h0 hc)
        clear hc
        go_wp2
        go_round
        case rel => exact ⟨_, rfl, by simp; omega, HS.out.trans HT.out⟩
        case measure => simp [slen]; omega
      · have hq : (((t[t.size - 1].toNat : Nat) : Int) == n) = false := by rw [HN.out, HB.out, beq_eq_false_iff_ne]; omega
        have HS := Lib.hid (rtrim_stop (c := c) (t := t) (.inr hc))
        clear hc
        go_wp2
        go_ret
        exact ⟨ret_s (by rw [← HT.out, HS.out, ofL_of]), rfl⟩
    · have HS := Lib.hid (rtrim_stop (c := c) (t := t) (.inl (by omega)))
      go_wp2
      go_ret
      exact ⟨ret_s (by rw [← HT.out, HS.out, ofL_of]), rfl⟩
set_option maxRecDepth 100000 in
/-- strings.Trim(s, "\\x00") -/
theorem Trim0_any (s : ByteArray) (w : World) (hs : s.size ≤ maxLen) :
    Calls Tryz.prog 130 #[.string s, .string ⟨#[0]⟩] w fun e w' => e = .returned (.string (ofL (ltrimL 0 (rtrimL 0 s.data.toList)))) ∧ Below w.heap.size w w' := by
  by_cases h0 : s.size = 0
  · have HF := Lib.hid (show ofL (ltrimL 0 (rtrimL 0 s.data.toList)) = s by rw [rtrim_stop (.inl h0), ltrim_stop (.inl h0), ofL_of])
    have he := empty_t h0
    clear h0
    go_enter Tryz.func130, Tryz.ntmps130
    go_wp2
    go_ret
    exact ⟨ret_s HF.out, Below.refl _ _⟩
  · have he := empty_f h0
    have hr := rtrim_length 0 s.data.toList
    rw [← Lib.size_eq s] at hr
    have hz : (ofL (rtrimL 0 s.data.toList)).size ≤ maxLen := by rw [ofL_size]; omega
    have HR := Lib.hid (fun (w : World) => trimRightByte_any s 0 0 rfl w hs)
    have hl := fun (w : World) => trimLeftByte_any (ofL (rtrimL 0 s.data.toList)) 0 0 rfl w hz
    rw [ofL_data] at hl
    have HL := Lib.hid hl
    clear h0 hr hz hl hs
    go_enter Tryz.func130, Tryz.ntmps130
    go_wp2_with fail
    go_quiet ((first | (go_at_call 190; exact quiet_same (HR.out _)) | (go_at_call 189; exact quiet_same (HL.out _))))
    go_wp2
    go_ret
    exact ⟨rfl, below_draws _ _ _⟩
end Go.Proofs.YtaffgndickdbiaaGreatDoor
