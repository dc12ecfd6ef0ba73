/-
  Texts: Map, TreeCheck, BoxOf.
-/
import Derived.MapKept
import Derived.Maps.OwnSet
import Derived.Test.YtaffgndickdbiaaDoorT06
set_option linter.unusedVariables false
set_option linter.unusedSimpArgs false
set_option linter.unusedSectionVars false
namespace Go.Creel
open Go.RowKit
structure KeyOn {κ : Type} [DecidableEq κ] (kind : TypeDesc) (mk : κ → Value) : Prop where
  same : ∀ a b, Instr.sameNow kind (mk a) (mk b) = some (decide (a = b))
  bits : ∀ a, Instr.sameBits 10000 (mk a) (mk a) = true
  check : ∀ {P : Program} {t : TypeId} (w : World) (a : κ), P.underlying t = some kind → (Instr.checkKey false 10000 t (mk a)).run P w = .ok () w
  checkE : ∀ {P : Program} {t : TypeId} (w : World) (a : κ), P.underlying t = some kind → (Instr.checkKey true 10000 t (mk a)).run P w = .ok () w
theorem checkKey_succ (b : Bool) (t : TypeId) (v : Value) : Instr.checkKey b 10000 t v = Instr.checkKey b (9999 + 1) t v := rfl
theorem keyOn_int : KeyOn (.int .i64) (fun n : Int => Value.int .i64 n) where
  same a b := by simp [Instr.sameNow, Bool.beq_eq_decide_eq]
  bits a := by simp [Instr.sameBits]
  check w a h := by rw [checkKey_succ]; unfold Instr.checkKey; simp [run_underlying h, Result.andThen]
  checkE w a h := by rw [checkKey_succ]; unfold Instr.checkKey; simp [run_underlying h, Result.andThen]
section
variable {κ : Type} [DecidableEq κ]
def assoc (k : κ) : List (κ × Value) → Option Value
  | [] => none
  | p :: r => if k = p.1 then some p.2 else assoc k r
def assocPut (k : κ) (v : Value) : List (κ × Value) → List (κ × Value)
  | [] => [(k, v)]
  | p :: r => if k = p.1 then (k, v) :: r else p :: assocPut k v r
theorem assoc_put (k k' : κ) (v : Value) : ∀ l, assoc k' (assocPut k v l) = if k' = k then some v else assoc k' l
  | [] => by simp [assocPut, assoc]
  | p :: r => by
    have ih := assoc_put k k' v r
    unfold assocPut
    by_cases h : k = p.1
    · rw [if_pos h]
      unfold assoc
      by_cases h2 : k' = k
      · simp [h2]
      · rw [if_neg h2, if_neg h2, if_neg (by rw [← h]; exact h2)]
    · rw [if_neg h]
      unfold assoc
      by_cases h2 : k' = p.1
      · rw [if_pos h2, if_pos h2, if_neg (by rw [h2]; exact fun e => h e.symm)]
      · rw [if_neg h2, if_neg h2, ih]
def MapIs (mk : κ → Value) (w : World) (b : Nat) (l : List (κ × Value)) : Prop :=
  ∃ es clock, w.heap[b]? = some (.map es clock) ∧ es.toList.map (fun e => (e.key, e.val)) = l.map (fun p => (mk p.1, p.2))
theorem MapIs.lt {mk : κ → Value} {w : World} {b : Nat} {l : List (κ × Value)} (h : MapIs mk w b l) : b < w.heap.size := by
  obtain ⟨es, clock, hb, _⟩ := h
  exact (Array.getElem?_eq_some_iff.1 hb).1
theorem MapIs.below {mk : κ → Value} {w w' : World} {b : Nat} {l : List (κ × Value)} {B : Nat} (h : MapIs mk w b l) (hb : Below B w w') (hB : b < B) : MapIs mk w' b l := by
  obtain ⟨es, clock, h1, h2⟩ := h
  exact ⟨es, clock, (hb.block b hB).trans h1, h2⟩
theorem MapIs.made (mk : κ → Value) (w : World) : MapIs mk (w.alloc (.map #[] 0)) w.heap.size ([] : List (κ × Value)) := ⟨#[], 0, heap_alloc_new w _, rfl⟩
theorem findNow_spec {kind : TypeDesc} {mk : κ → Value} (K : KeyOn kind mk) (k : κ) (u : Value) : ∀ (es : List MapEntry) (l : List (κ × Value)) (i : Nat), es.map (fun e => (e.key, e.val)) = l.map (fun p => (mk p.1, p.2)) →
    (assoc k l = none ∧ Instr.findNow kind (mk k) es i = some none ∧ assocPut k u l = l ++ [(k, u)]) ∨
    ∃ j v e, assoc k l = some v ∧ Instr.findNow kind (mk k) es i = some (some (i + j, v)) ∧ es[j]? = some e ∧ e.key = mk k ∧ (es.modify j (fun e => { e with key := mk k, val := u })).map (fun e => (e.key, e.val)) = (assocPut k u l).map (fun p => (mk p.1, p.2))
  | [], [], _, _ => .inl ⟨rfl, rfl, rfl⟩
  | [], p :: l, _, h => by simp at h
  | e :: es, [], _, h => by simp at h
  | e :: es, p :: l, i, h => by
    simp only [List.map_cons, List.cons.injEq, Prod.mk.injEq] at h
    obtain ⟨⟨hk, hv⟩, hr⟩ := h
    have hs := K.same k p.1
    by_cases hkp : k = p.1
    · right
      refine ⟨0, p.2, e, by simp [assoc, hkp], ?_, rfl, by rw [hk, hkp], ?_⟩
      · unfold Instr.findNow
        rw [hk, hs, hkp]
        simp [hv]
      · simp [assocPut, hkp, hr]
    · have hf : Instr.findNow kind (mk k) (e :: es) i = Instr.findNow kind (mk k) es (i + 1) := by
        conv => lhs; unfold Instr.findNow
        rw [hk, hs]
        simp [hkp]
      rcases findNow_spec K k u es l (i + 1) hr with ⟨h1, h2, h3⟩ | ⟨j, v, e', h1, h2, h3, h4, h5⟩
      · left
        exact ⟨by simp [assoc, hkp, h1], by rw [hf, h2], by simp [assocPut, hkp, h3]⟩
      · right
        refine ⟨j + 1, v, e', by simp [assoc, hkp, h1], by rw [hf, h2]; congr 3; omega, by simpa using h3, h4, ?_⟩
        simp [assocPut, hkp, h5, hk, hv]
variable {P : Program} {w : World} {mk : κ → Value} {kind : TypeDesc} {b : Nat} {l : List (κ × Value)}
theorem MapIs.checked (K : KeyOn kind mk) {k : TypeId} (hk : P.underlying k = some kind) (c : Bool) (a : κ) : (Instr.checkKey c 10000 k (mk a)).run P w = .ok () w := by
  cases c
  · exact K.check w a hk
  · exact K.checkE w a hk
theorem MapIs.look_some (h : MapIs mk w b l) (K : KeyOn kind mk) {t k e : TypeId} (ht : P.underlying t = some (.map k e)) (hk : P.underlying k = some kind) {a : κ} {v : Value} (ha : assoc a l = some v) (ok : Bool) :
    (Instr.lookup t (.map (some b)) (mk a) ok).run P w = .ok (if ok then .tuple #[v, .bool true] else v) w := by
  obtain ⟨es, clock, hb, hes⟩ := h
  rcases findNow_spec K a undef es.toList l 0 hes with ⟨h1, _⟩ | ⟨j, v', e', h1, h2, _⟩
  · rw [h1] at ha; cases ha
  · rw [h1] at ha
    cases ha
    unfold Instr.lookup Instr.findKey
    simp only [Sem.run_bind, run_underlying ht, Result.andThen_ok, MapKept.run_getObj_map hb, MapIs.checked K hk, run_underlying hk, h2, Sem.run_pure]
theorem MapIs.look_none (h : MapIs mk w b l) (K : KeyOn kind mk) {t k e : TypeId} (ht : P.underlying t = some (.map k e)) (hk : P.underlying k = some kind) {a : κ} {z : Value} (ha : assoc a l = none) (hz : (zeroValue e).run P w = .ok z w) (ok : Bool) :
    (Instr.lookup t (.map (some b)) (mk a) ok).run P w = .ok (if ok then .tuple #[z, .bool false] else z) w := by
  obtain ⟨es, clock, hb, hes⟩ := h
  rcases findNow_spec K a undef es.toList l 0 hes with ⟨h1, h2, _⟩ | ⟨j, v', e', h1, h2, _⟩
  · unfold Instr.lookup Instr.findKey
    simp only [Sem.run_bind, run_underlying ht, Result.andThen_ok, MapKept.run_getObj_map hb, MapIs.checked K hk, run_underlying hk, h2, Sem.run_pure, hz]
  · rw [h1] at ha; cases ha
theorem MapIs.put (h : MapIs mk w b l) (K : KeyOn kind mk) {t k e : TypeId} (ht : P.underlying t = some (.map k e)) (hk : P.underlying k = some kind) (a : κ) (u : Value) :
    ∃ w', (Instr.mapUpdate t (.map (some b)) (mk a) u).run P w = .ok () w' ∧ MapIs mk w' b (assocPut a u l) ∧ w.grownBy w' (some b) := by
  obtain ⟨es, clock, hb, hes⟩ := h
  have hlt : b < w.heap.size := (Array.getElem?_eq_some_iff.1 hb).1
  rcases findNow_spec K a u es.toList l 0 hes with ⟨h1, h2, h3⟩ | ⟨j, v', e', h1, h2, h3, h4, h5⟩
  · refine ⟨_, by
      unfold Instr.mapUpdate Instr.findKey
      simp only [Sem.run_bind, run_underlying ht, Result.andThen_ok, MapKept.run_getObj_map hb, MapIs.checked K hk, run_underlying hk, h2, Sem.run_pure]
      exact MapKept.run_setObj_map _ hb, ?_, ?_⟩
    · refine ⟨_, _, by simp [hlt]; exact ⟨rfl, rfl⟩, ?_⟩
      rw [h3]
      simp [hes]
    · exact ⟨rfl, rfl, rfl, by simp, fun i _ hi => by
        simp only [Array.getElem?_setIfInBounds]
        rw [if_neg (fun e => hi (by rw [e]))]⟩
  · have hej : es[j]? = some e' := by simpa using h3
    refine ⟨_, by
      unfold Instr.mapUpdate Instr.findKey Instr.keyThatStays
      simp only [Sem.run_bind, run_underlying ht, Result.andThen_ok, MapKept.run_getObj_map hb, MapIs.checked K hk, run_underlying hk, h2, Sem.run_pure, Nat.zero_add, hej, Option.map_some, Option.getD_some, h4, K.bits, if_true]
      exact MapKept.run_setObj_map _ hb, ?_, ?_⟩
    · refine ⟨_, _, by simp [hlt]; exact ⟨rfl, rfl⟩, ?_⟩
      rw [← h5]
      simp [Array.toList_modify]
    · exact ⟨rfl, rfl, rfl, by simp, fun i _ hi => by
        simp only [Array.getElem?_setIfInBounds]
        rw [if_neg (fun e => hi (by rw [e]))]⟩
end
open Go.RowKit
def FstIs (l : List Nod) (k : Nat) (m : List (Int × Value)) : Prop := ∀ s, s ≠ 0 → assoc s m = (fstAt l k s).map fun j => (nk l j).val
theorem FstIs.start (l : List Nod) : FstIs l 0 [] := fun s _ => rfl
theorem FstIs.skip {l : List Nod} {k : Nat} {m : List (Int × Value)} (h : FstIs l k m) (h0 : (nk l k).same = 0) : FstIs l (k + 1) m := by
  intro s hs
  rw [h s hs, fstAt_succ, if_neg (fun e => hs (e.symm.trans h0)), Option.or_none]
theorem FstIs.has {l : List Nod} {k j : Nat} {m : List (Int × Value)} (h : FstIs l k m) (hj : fstAt l k (nk l k).same = some j) : FstIs l (k + 1) m := by
  intro s hs
  rw [h s hs, fstAt_succ]
  by_cases e : (nk l k).same = s
  · rw [← e, hj]; rfl
  · rw [if_neg e, Option.or_none]
theorem FstIs.put {l : List Nod} {k : Nat} {m : List (Int × Value)} (h : FstIs l k m) (h0 : (nk l k).same ≠ 0) (hj : fstAt l k (nk l k).same = none) : FstIs l (k + 1) (assocPut (nk l k).same (nk l k).val m) := by
  intro s hs
  rw [assoc_put, fstAt_succ]
  by_cases e : s = (nk l k).same
  · rw [if_pos e, e, hj, if_pos rfl]; rfl
  · rw [if_neg e, if_neg (fun h => e h.symm), Option.or_none, h s hs]
theorem zs_next {l : List Nod} {k : Nat} (hz : ∀ j, j < k → stepF l j = 0) (h : stepF l k = 0) : ∀ j, j < k + 1 → stepF l j = 0 := fun j hj => by
  by_cases e : j = k
  · rw [e]; exact h
  · exact hz j (by omega)
theorem ord_dec2 (l : List Nod) (q : Nat) : decide (0 ≤ ordP (pathParts (nk l q).path) (pathParts (nk l (q + 1)).path)) = ordBadB l (q + 1) := by
  rw [← ord_dec]
  rcases ordP_rangeT (pathParts (nk l q).path) (pathParts (nk l (q + 1)).path) with h | h | h <;> rw [h] <;> rfl
end Go.Creel
namespace Go.Proofs.YtaffgndickdbiaaDoor
open Go.Creel Go.RowKit
theorem nodR_call (x : Nod) (w : World) (hM : MaxOk w) (h : x.Ok maxLen w) : Calls Tryd.prog 69 #[x.val] w fun e w' => e = .returned (.int .i64 (nodFault x)) ∧ Below w.heap.size w w' :=
  TreeRight_any x w hM h.path h.target h.mt (by obtain ⟨_, _, _, _, _, h, _⟩ := h.data; exact h) h.kind h.same (Nat.le_refl _)
set_option maxRecDepth 100000 in
set_option maxHeartbeats 4000000 in
theorem TreeCheck_at (b off cap : Nat) (l : List Nod) (w : World) (hM : MaxOk w) (hpos : 0 < l.length) (hle : l.length ≤ cap) (hm : cap ≤ maxLen) (hc : NodsAt w b off l) (ho : ∀ i, i < l.length → (nk l i).Ok maxLen w) :
    Calls Tryd.prog 29 #[.slice (some ⟨b, off, none⟩) l.length cap] w fun e w' => e = .returned (.int .i64 (treeFault l)) ∧ Below w.heap.size w w' := by
  have hm' := hm
  unfold maxLen at hm
  have HC := Lib.hid hc
  have HO := Lib.hid ho
  have HM := Lib.hid hM
  have HCAP := Lib.hid hm'
  clear hc ho hm' hM
  by_cases hmany : 40 < l.length
  · have HF := Lib.hid (treeFault_many hmany)
    go_enter Tryd.func29, Tryd.ntmps29
    go_wp2
    go_ret
    exact ⟨ret_i HF.out, Below.refl _ _⟩
  have hfew : l.length ≤ 40 := by omega
  clear hmany
  have HMS := Lib.hid (MapIs.made (fun n : Int => Value.int .i64 n) w)
  have HMB := Lib.hid ((Below.refl w.heap.size w).alloc (Nat.le_refl _) (.map #[] 0))
  have hmm := @run_makeMap Tryd.prog
  go_enter Tryd.func29, Tryd.ntmps29
  go_wp2
  clear hmm
  generalize hmb : w.heap.size = mb at HMS
  have HMBE := Lib.hid hmb
  go_loopw [4, 5, 6, 7, 8, 9, 10, 11, 18] (fun _ _ _ _ _ _ _ _ i wr => ∃ (k : Nat) (m : List (Int × Value)), k ≤ l.length ∧ i = .int .i64 k ∧ Hid (∀ j, j < k → stepF l j = 0) ∧ Hid (Below w.heap.size w wr) ∧ Hid (MapIs (fun n : Int => Value.int .i64 n) wr mb m) ∧ Hid (FstIs l k m)) (fun _ _ _ _ _ _ _ _ i _ => l.length - (intOf i).toNat)
  case atStart => exact ⟨0, [], by omega, rfl, Lib.hid fun j hj => absurd hj (by omega), HMB, HMS, Lib.hid (FstIs.start l)⟩
  case round =>
    obtain ⟨k, m, hk, rfl, HZ, HB, HMI, HFI⟩ := hrel
    by_cases hlt : k < l.length
    · obtain ⟨h0, h1, h2, h3, h4, h5, h6, h7, h8, h9, h10, h11⟩ := (HC.out.below HB.out) k hlt
      have HX := Lib.hid ((HO.out k hlt).below HB.out)
      have HAT := Lib.hid (fun e => treeFault_at (e := e) hfew hlt HZ.out)
      have HMLT := Lib.hid HMI.out.lt
      by_cases hA : nodFault (nk l k) = 0
      · have HA := Lib.hid hA
        clear hA
        go_wp2_with fail
        have HBX := Lib.hid (nodAt_box wr (nk l k) 60)
        refine (nodR_call _ _ (HM.out.below (HB.out.alloc HB.out.size _)) (HX.out.below ((Below.refl _ _).alloc (Nat.le_refl _) _))).mono ?_
        rintro e w1 ⟨rfl, hb⟩
        have HB1 := Lib.hid ((HB.out.alloc HB.out.size _).trans (hb.mono (by simp; exact Nat.le_succ_of_le HB.out.size)))
        have HBX1 := Lib.hid (HBX.out.below hb)
        have HM1 := Lib.hid (HMI.out.below (((Below.refl _ _).alloc (Nat.le_refl _) _).trans (hb.mono (by simp))) HMLT.out)
        have HMLT1 := Lib.hid HM1.out.lt
        rw [HA.out]
        clear hb h0 h1 h2 h3 h4 h5 h6 h7 h8 h9 h10 h11
        generalize wr.heap.size = bx at *
        obtain ⟨g0, g1, g2, g3, g4, g5, g6, g7, g8, g9, g10, g11⟩ := HBX1.out.zero
        have HPZ := Lib.hid (fun (j : Nat) (hj : j ≤ k) => show (nk l j).path.size ≤ 1048576 from Nat.le_trans (nodFault_path (by
          rcases Nat.lt_or_ge j k with h | h
          · exact (stepF_zero (HZ.out j h)).1
          · rw [show j = k by omega]; exact HA.out)) (by decide))
        go_upto_region 10 with fail
        go_cut [18, 41] from 18 to 88 (fun c u wc => c = .int .i64 k ∧ u = .bool (ordBadB l k) ∧ Hid (Below w1.heap.size w1 wc))
        case first =>
          by_cases hk0 : k = 0
          · subst hk0
            go_wp2
            go_quiet (fail)
            go_wp2_with fail
            go_meet
            case rel => exact ⟨rfl, rfl, Lib.hid (below_draws _ _ _)⟩
          · obtain ⟨q, rfl⟩ : ∃ q, k = q + 1 := ⟨k - 1, by omega⟩
            obtain ⟨p0, _⟩ := (HC.out.below HB1.out) q (by omega)
            have hwq : IntKind.i64.wrap (q : Int) = (q : Int) := by rw [IntKind.wrap_i64]; omega
            have hql : (q : Int) < (l.length : Int) := by omega
            go_wp2
            go_still_tail 11, (by kernel_rfl)
            go_wp2_with fail
            refine (Compare_any _ _ _ ((HM.out.below HB1.out).below (Below.refl _ _).drew) (HPZ.out q (by omega)) (HPZ.out (q + 1) (by omega))).mono ?_
            rintro e wc ⟨rfl, hb⟩
            have HBC := Lib.hid ((Below.refl w1.heap.size w1).drew.trans hb)
            clear hb
            go_wp2_with fail
            go_meet
            case rel => exact ⟨rfl, congrArg Value.bool (ord_dec2 _ _), HBC⟩
        case rest =>
          obtain ⟨rfl, rfl, HBC⟩ := hcut
          have HB2 := Lib.hid (HB1.out.trans (HBC.out.mono HB1.out.size))
          have HBX2 := Lib.hid (HBX1.out.below HBC.out)
          have HM2 := Lib.hid (HM1.out.below HBC.out HMLT1.out)
          have HMLT2 := Lib.hid HM2.out.lt
          clear g0 g1 g2 g3 g4 g5 g6 g7 g8 g9 g10 g11
          obtain ⟨g0, g1, g2, g3, g4, g5, g6, g7, g8, g9, g10, g11⟩ := HBX2.out.zero
          by_cases hO : OrdOk l k
          · have HOK := Lib.hid hO
            rw [ordBad_f hO]
            clear hO
            have HUPC := Lib.hid (fun w : World => Up_any (nk l k).path w (Nat.le_trans (HPZ.out k (Nat.le_refl _)) (by decide)))
            by_cases h0 : (pathUp (nk l k).path).size = 0
            · have he := empty_t h0
              have HUO := Lib.hid (show UpOk l k from fun e => absurd h0 e)
              clear h0
              go_upto_region 17 with (go_at_call 70; refine (HUPC.out _).mono ?_; rintro e w' ⟨rfl, rfl⟩)
              obtain ⟨wz, hwz⟩ : ∃ x : World, x = wc := ⟨_, rfl⟩
              subst hwz
              have HBZ := HB2
              have HXZ := HBX2
              have HMZ := HM2
              have hbz := HXZ.out.lt
              by_cases hs0 : (nk l k).same = 0
              · have HS := Lib.hid (stepF_ok HA.out HOK.out HUO.out (.inl hs0))
                have HFN := Lib.hid (HFI.out.skip hs0)
                have hsd : ((nk l k).same == 0) = true := by rw [hs0]; rfl
                clear hs0
                go_wp2
                go_roundw
                case rel => exact ⟨k + 1, m, by omega, by go_num, Lib.hid (zs_next HZ.out HS.out), HBZ, HMZ, HFN⟩
                case measure => simp [intOf]; omega
              · have HS0 := Lib.hid hs0
                have hsd : ((nk l k).same == 0) = false := by rw [beq_eq_false_iff_ne]; exact hs0
                have HAS := Lib.hid (HFI.out _ hs0)
                have HMZL := Lib.hid HMZ.out.lt
                have HWB := Lib.hid (show mb ≥ w.heap.size by rw [HMBE.out]; exact Nat.le_refl _)
                clear hs0
                cases hfst : fstAt l k (nk l k).same with
                | none =>
                  have HSN := Lib.hid (stepF_ok HA.out HOK.out HUO.out (.inr fun j hj he => absurd he (fstAt_none hfst j hj)))
                  have HFN := Lib.hid (HFI.out.put HS0.out hfst)
                  have hlook := HMZ.out.look_none keyOn_int (t := 93) (k := 3) (e := 60) Tryd.underlying93 Tryd.underlying3 (by rw [HAS.out, hfst]; rfl) (Tryd.zeroValue60 _) true
                  simp only [if_true] at hlook
                  have HB5 := Lib.hid (HBZ.out.alloc HBZ.out.size (.cells #[.string ⟨#[]⟩, .int .i64 0, .int .i64 0, .string ⟨#[]⟩, .int .i64 0, .int .i64 0, .int .i64 0, .string ⟨#[]⟩, .string ⟨#[]⟩, .int .i64 0, .int .i64 0, .slice none 0 0] 60))
                  obtain ⟨wp, hput, hmp, hgr⟩ := MapIs.put (HMZ.out.below (w' := wz.alloc (.cells #[.string ⟨#[]⟩, .int .i64 0, .int .i64 0, .string ⟨#[]⟩, .int .i64 0, .int .i64 0, .int .i64 0, .string ⟨#[]⟩, .string ⟨#[]⟩, .int .i64 0, .int .i64 0, .slice none 0 0] 60)) ((Below.refl _ _).alloc (Nat.le_refl _) _) HMZL.out) keyOn_int (t := 93) (k := 3) (e := 60) Tryd.underlying93 Tryd.underlying3 (nk l k).same (nk l k).val
                  have HMP := Lib.hid hmp
                  have HB6 := Lib.hid (HB5.out.grown hgr HB5.out.size (fun q hq => by cases hq; exact HWB.out))
                  clear hfst hmp hgr
                  go_wp2
                  go_roundw
                  case rel => exact ⟨k + 1, _, by omega, by go_num, Lib.hid (zs_next HZ.out HSN.out), HB6, HMP, HFN⟩
                  case measure => simp [intOf]; omega
                | some j =>
                  obtain ⟨hj, hjs⟩ := fstAt_some hfst
                  have hlook := HMZ.out.look_some keyOn_int (t := 93) (k := 3) (e := 60) Tryd.underlying93 Tryd.underlying3 (a := (nk l k).same) (v := (nk l j).val) (by rw [HAS.out, hfst]; rfl) true
                  simp only [if_true] at hlook
                  have HFN := Lib.hid (HFI.out.has hfst)
                  have HB5 := Lib.hid (HBZ.out.alloc HBZ.out.size (.cells #[.string (nk l j).path, .int .i64 (nk l j).kind, .int .i64 (nk l j).same, .string (nk l j).target, .int .i64 (nk l j).mt.mode, .int .i64 (nk l j).mt.uid, .int .i64 (nk l j).mt.gid, .string (nk l j).mt.user, .string (nk l j).mt.group, .int .i64 (nk l j).mt.second, .int .i64 (nk l j).mt.nano, .slice (nk l j).da (nk l j).data.length (nk l j).dcap] 60))
                  have HMZ5 := Lib.hid (HMZ.out.below (w' := wz.alloc (.cells #[.string (nk l j).path, .int .i64 (nk l j).kind, .int .i64 (nk l j).same, .string (nk l j).target, .int .i64 (nk l j).mt.mode, .int .i64 (nk l j).mt.uid, .int .i64 (nk l j).mt.gid, .string (nk l j).mt.user, .string (nk l j).mt.group, .int .i64 (nk l j).mt.second, .int .i64 (nk l j).mt.nano, .slice (nk l j).da (nk l j).data.length (nk l j).dcap] 60)) ((Below.refl _ _).alloc (Nat.le_refl _) _) HMZL.out)
                  have HLK := Lib.hid (Alike_any (nk l j) (nk l k) (wz.alloc (.cells #[.string (nk l j).path, .int .i64 (nk l j).kind, .int .i64 (nk l j).same, .string (nk l j).target, .int .i64 (nk l j).mt.mode, .int .i64 (nk l j).mt.uid, .int .i64 (nk l j).mt.gid, .string (nk l j).mt.user, .string (nk l j).mt.group, .int .i64 (nk l j).mt.second, .int .i64 (nk l j).mt.nano, .slice (nk l j).da (nk l j).data.length (nk l j).dcap] 60)) ((HO.out j (by omega)).below HB5.out).data ((HO.out k hlt).below HB5.out).data)
                  have HFST := Lib.hid hfst
                  have HJ := Lib.hid (And.intro hj hjs)
                  clear hfst hjs hj
                  cases hlike : likeB (nk l j) (nk l k) with
                  | true =>
                    have HSN := Lib.hid (stepF_ok HA.out HOK.out HUO.out (.inr (like_all HZ.out HS0.out HFST.out hlike)))
                    rw [hlike] at HLK
                    clear hlike
                    go_wp2_with (go_at_call 71; refine HLK.out.mono ?_; rintro e w6 ⟨rfl, hb6⟩; have HB6 := Lib.hid (HB5.out.trans (hb6.mono HB5.out.size)); have HM6 := Lib.hid (HMZ5.out.below hb6 (by have := HMZL.out; simp; omega)); clear hb6)
                    go_roundw
                    case rel => exact ⟨k + 1, m, by omega, by go_num, Lib.hid (zs_next HZ.out HSN.out), HB6, HM6, HFN⟩
                    case measure => simp [intOf]; omega
                  | false =>
                    have HF := Lib.hid (HAT.out 11 (stepF_like HA.out HOK.out HUO.out HS0.out HJ.out.1 HJ.out.2 hlike) (by decide))
                    rw [hlike] at HLK
                    clear hlike
                    go_wp2_with (go_at_call 71; refine HLK.out.mono ?_; rintro e w6 ⟨rfl, hb6⟩; have HB6 := Lib.hid (HB5.out.trans (hb6.mono HB5.out.size)); clear hb6)
                    go_ret
                    exact ⟨ret_i HF.out, HB6.out⟩
            · have he := empty_f h0
              have htk : (l.take k).length = k := by rw [List.length_take]; omega
              have hfind := Find_at b off cap (l.take k) (pathUp (nk l k).path) wc (by omega) HCAP.out ((HC.out.below HB2.out).take k)
              rw [htk] at hfind
              have HFI2 := Lib.hid hfind
              have htl := treeFind_le (l.take k) (pathUp (nk l k).path)
              rw [htk] at htl
              have hkc : k ≤ cap := by omega
              have HUP := Lib.hid (show UpOk l k ↔ (treeFind (l.take k) (pathUp (nk l k).path) < k ∧ (nk l (treeFind (l.take k) (pathUp (nk l k).path))).kind = 2) from ⟨fun e => e h0, fun e _ => e⟩)
              clear hfind htk h0
              generalize hn : treeFind (l.take k) (pathUp (nk l k).path) = n at HFI2 HUP htl
              clear hn
              by_cases hnk : n < k
              · have hfe : findIE n k = ((n : Int), 0) := by unfold findIE; rw [if_pos hnk]
                rw [hfe] at HFI2
                clear hfe
                go_wp2_with (first | (go_at_call 70; refine (HUPC.out _).mono ?_; rintro e w' ⟨rfl, rfl⟩) | fail)
                refine HFI2.out.mono ?_
                rintro e wz ⟨rfl, hb⟩
                have HBZ := Lib.hid (HB2.out.trans (hb.mono HB2.out.size))
                have HXZ := Lib.hid (HBX2.out.below hb)
                have HMZ := Lib.hid (HM2.out.below hb HMLT2.out)
                clear hb g0 g1 g2 g3 g4 g5 g6 g7 g8 g9 g10 g11
                obtain ⟨g0, g1, g2, g3, g4, g5, g6, g7, g8, g9, g10, g11⟩ := HXZ.out.zero
                obtain ⟨_, q1, _⟩ := (HC.out.below HBZ.out) n (by omega)
                by_cases hkd : (nk l n).kind = 2
                · have HUO := Lib.hid (HUP.out.2 ⟨hnk, hkd⟩)
                  have hd2 : ((nk l n).kind != 2) = false := by rw [hkd]; rfl
                  clear hkd
                  have hnl : (n : Int) < (l.length : Int) := by omega
                  go_upto_region 17 with fail
                  have hbz := HXZ.out.lt
                  by_cases hs0 : (nk l k).same = 0
                  · have HS := Lib.hid (stepF_ok HA.out HOK.out HUO.out (.inl hs0))
                    have HFN := Lib.hid (HFI.out.skip hs0)
                    have hsd : ((nk l k).same == 0) = true := by rw [hs0]; rfl
                    clear hs0
                    go_wp2
                    go_roundw
                    case rel => exact ⟨k + 1, m, by omega, by go_num, Lib.hid (zs_next HZ.out HS.out), HBZ, HMZ, HFN⟩
                    case measure => simp [intOf]; omega
                  · have HS0 := Lib.hid hs0
                    have hsd : ((nk l k).same == 0) = false := by rw [beq_eq_false_iff_ne]; exact hs0
                    have HAS := Lib.hid (HFI.out _ hs0)
                    have HMZL := Lib.hid HMZ.out.lt
                    have HWB := Lib.hid (show mb ≥ w.heap.size by rw [HMBE.out]; exact Nat.le_refl _)
                    clear hs0
                    cases hfst : fstAt l k (nk l k).same with
                    | none =>
                      have HSN := Lib.hid (stepF_ok HA.out HOK.out HUO.out (.inr fun j hj he => absurd he (fstAt_none hfst j hj)))
                      have HFN := Lib.hid (HFI.out.put HS0.out hfst)
                      have hlook := HMZ.out.look_none keyOn_int (t := 93) (k := 3) (e := 60) Tryd.underlying93 Tryd.underlying3 (by rw [HAS.out, hfst]; rfl) (Tryd.zeroValue60 _) true
                      simp only [if_true] at hlook
                      have HB5 := Lib.hid (HBZ.out.alloc HBZ.out.size (.cells #[.string ⟨#[]⟩, .int .i64 0, .int .i64 0, .string ⟨#[]⟩, .int .i64 0, .int .i64 0, .int .i64 0, .string ⟨#[]⟩, .string ⟨#[]⟩, .int .i64 0, .int .i64 0, .slice none 0 0] 60))
                      obtain ⟨wp, hput, hmp, hgr⟩ := MapIs.put (HMZ.out.below (w' := wz.alloc (.cells #[.string ⟨#[]⟩, .int .i64 0, .int .i64 0, .string ⟨#[]⟩, .int .i64 0, .int .i64 0, .int .i64 0, .string ⟨#[]⟩, .string ⟨#[]⟩, .int .i64 0, .int .i64 0, .slice none 0 0] 60)) ((Below.refl _ _).alloc (Nat.le_refl _) _) HMZL.out) keyOn_int (t := 93) (k := 3) (e := 60) Tryd.underlying93 Tryd.underlying3 (nk l k).same (nk l k).val
                      have HMP := Lib.hid hmp
                      have HB6 := Lib.hid (HB5.out.grown hgr HB5.out.size (fun q hq => by cases hq; exact HWB.out))
                      clear hfst hmp hgr
                      go_wp2
                      go_roundw
                      case rel => exact ⟨k + 1, _, by omega, by go_num, Lib.hid (zs_next HZ.out HSN.out), HB6, HMP, HFN⟩
                      case measure => simp [intOf]; omega
                    | some j =>
                      obtain ⟨hj, hjs⟩ := fstAt_some hfst
                      have hlook := HMZ.out.look_some keyOn_int (t := 93) (k := 3) (e := 60) Tryd.underlying93 Tryd.underlying3 (a := (nk l k).same) (v := (nk l j).val) (by rw [HAS.out, hfst]; rfl) true
                      simp only [if_true] at hlook
                      have HFN := Lib.hid (HFI.out.has hfst)
                      have HB5 := Lib.hid (HBZ.out.alloc HBZ.out.size (.cells #[.string (nk l j).path, .int .i64 (nk l j).kind, .int .i64 (nk l j).same, .string (nk l j).target, .int .i64 (nk l j).mt.mode, .int .i64 (nk l j).mt.uid, .int .i64 (nk l j).mt.gid, .string (nk l j).mt.user, .string (nk l j).mt.group, .int .i64 (nk l j).mt.second, .int .i64 (nk l j).mt.nano, .slice (nk l j).da (nk l j).data.length (nk l j).dcap] 60))
                      have HMZ5 := Lib.hid (HMZ.out.below (w' := wz.alloc (.cells #[.string (nk l j).path, .int .i64 (nk l j).kind, .int .i64 (nk l j).same, .string (nk l j).target, .int .i64 (nk l j).mt.mode, .int .i64 (nk l j).mt.uid, .int .i64 (nk l j).mt.gid, .string (nk l j).mt.user, .string (nk l j).mt.group, .int .i64 (nk l j).mt.second, .int .i64 (nk l j).mt.nano, .slice (nk l j).da (nk l j).data.length (nk l j).dcap] 60)) ((Below.refl _ _).alloc (Nat.le_refl _) _) HMZL.out)
                      have HLK := Lib.hid (Alike_any (nk l j) (nk l k) (wz.alloc (.cells #[.string (nk l j).path, .int .i64 (nk l j).kind, .int .i64 (nk l j).same, .string (nk l j).target, .int .i64 (nk l j).mt.mode, .int .i64 (nk l j).mt.uid, .int .i64 (nk l j).mt.gid, .string (nk l j).mt.user, .string (nk l j).mt.group, .int .i64 (nk l j).mt.second, .int .i64 (nk l j).mt.nano, .slice (nk l j).da (nk l j).data.length (nk l j).dcap] 60)) ((HO.out j (by omega)).below HB5.out).data ((HO.out k hlt).below HB5.out).data)
                      have HFST := Lib.hid hfst
                      have HJ := Lib.hid (And.intro hj hjs)
                      clear hfst hjs hj
                      cases hlike : likeB (nk l j) (nk l k) with
                      | true =>
                        have HSN := Lib.hid (stepF_ok HA.out HOK.out HUO.out (.inr (like_all HZ.out HS0.out HFST.out hlike)))
                        rw [hlike] at HLK
                        clear hlike
                        go_wp2_with (go_at_call 71; refine HLK.out.mono ?_; rintro e w6 ⟨rfl, hb6⟩; have HB6 := Lib.hid (HB5.out.trans (hb6.mono HB5.out.size)); have HM6 := Lib.hid (HMZ5.out.below hb6 (by have := HMZL.out; simp; omega)); clear hb6)
                        go_roundw
                        case rel => exact ⟨k + 1, m, by omega, by go_num, Lib.hid (zs_next HZ.out HSN.out), HB6, HM6, HFN⟩
                        case measure => simp [intOf]; omega
                      | false =>
                        have HF := Lib.hid (HAT.out 11 (stepF_like HA.out HOK.out HUO.out HS0.out HJ.out.1 HJ.out.2 hlike) (by decide))
                        rw [hlike] at HLK
                        clear hlike
                        go_wp2_with (go_at_call 71; refine HLK.out.mono ?_; rintro e w6 ⟨rfl, hb6⟩; have HB6 := Lib.hid (HB5.out.trans (hb6.mono HB5.out.size)); clear hb6)
                        go_ret
                        exact ⟨ret_i HF.out, HB6.out⟩
                · have HF := Lib.hid (HAT.out 10 (stepF_upN HA.out HOK.out (fun e => hkd (HUP.out.1 e).2)) (by decide))
                  have hd2 : ((nk l n).kind != 2) = true := by rw [bne_iff_ne]; exact hkd
                  have hnl : (n : Int) < (l.length : Int) := by omega
                  clear hkd
                  go_wp2
                  go_ret
                  exact ⟨ret_i HF.out, HBZ.out⟩
              · have hfe : findIE n k = (0, 5) := by unfold findIE; rw [if_neg hnk]
                rw [hfe] at HFI2
                clear hfe
                have HF := Lib.hid (HAT.out 10 (stepF_upN HA.out HOK.out (fun e => hnk (HUP.out.1 e).1)) (by decide))
                go_wp2_with (first | (go_at_call 70; refine (HUPC.out _).mono ?_; rintro e w' ⟨rfl, rfl⟩) | fail)
                refine HFI2.out.mono ?_
                rintro e wz ⟨rfl, hb⟩
                have HBZ := Lib.hid (HB2.out.trans (hb.mono HB2.out.size))
                clear hb
                go_wp2
                go_ret
                exact ⟨ret_i HF.out, HBZ.out⟩
          · have HF := Lib.hid (HAT.out 6 (stepF_ord HA.out (ord_not hO).1 (ord_not hO).2) (by decide))
            rw [ordBad_t hO]
            clear hO
            go_wp2
            go_ret
            exact ⟨ret_i HF.out, HB2.out⟩
      · have HF := Lib.hid (HAT.out _ (stepF_nod hA) hA)
        go_wp2_with fail
        refine (nodR_call _ _ (HM.out.below (HB.out.alloc HB.out.size _)) (HX.out.below ((Below.refl _ _).alloc (Nat.le_refl _) _))).mono ?_
        rintro e w1 ⟨rfl, hb⟩
        have HB1 := Lib.hid ((HB.out.alloc HB.out.size _).trans (hb.mono (by simp; exact Nat.le_succ_of_le HB.out.size)))
        clear hb h0 h1 h2 h3 h4 h5 h6 h7 h8 h9 h10 h11
        generalize nodFault (nk l k) = q at *
        go_wp2
        go_ret
        exact ⟨ret_i HF.out, HB1.out⟩
    · obtain rfl : k = l.length := by omega
      have HF := Lib.hid (treeFault_ok hfew HZ.out)
      go_wp2
      go_ret
      exact ⟨ret_i HF.out, HB.out⟩
set_option maxRecDepth 100000 in
theorem TreeCheck_nil (a : Option Addr) (cap : Nat) (w : World) :
    Calls Tryd.prog 29 #[.slice a 0 cap] w fun e w' => e = .returned (.int .i64 0) ∧ Below w.heap.size w w' := by
  have HMB := Lib.hid ((Below.refl w.heap.size w).alloc (Nat.le_refl _) (.map #[] 0))
  have hmm := @run_makeMap Tryd.prog
  go_enter Tryd.func29, Tryd.ntmps29
  go_wp2
  clear hmm
  go_loop [4, 5, 6, 7, 8, 9, 10, 11, 18] (fun _ _ _ _ _ _ _ _ i => i = .int .i64 0) (fun _ _ _ _ _ _ _ _ _ => 0)
  case atStart => rfl
  case round =>
    obtain rfl := hrel
    go_wp2
    go_ret
    exact ⟨rfl, HMB.out⟩
theorem treeFault_zero : treeFault [] = 0 := treeFault_ok (by simp) (fun j hj => absurd hj (by simp))
theorem TreeCheck_any (v : Value) (l : List Nod) (w : World) (hM : MaxOk w) (h : SliceC maxLen 12 (NodC maxLen) w [v] l) :
    Calls Tryd.prog 29 #[v] w fun e w' => e = .returned (.int .i64 (treeFault l)) ∧ Below w.heap.size w w' := by
  rcases nods_cases h with ⟨a, cap, rfl, rfl, _⟩ | ⟨b, off, cap, rfl, h1, h2, h3, _, h4, h5⟩
  · rw [treeFault_zero]; exact TreeCheck_nil a cap w
  · exact TreeCheck_at b off cap l w hM h1 h2 h3 h4 h5
theorem TreeFault_any (v : Value) (l : List Nod) (w : World) (h : SliceC maxLen 12 (NodC maxLen) w [v] l) :
    Calls Tryd.prog 33 #[v] w fun e w' => e = .returned (.int .i64 (treeFault l)) ∧ Below w.heap.size w w' := by
  rcases nods_cases h with ⟨a, cap, rfl, rfl, _⟩ | ⟨b, off, cap, rfl, h1, h2, h3, _, h4, h5⟩
  · rw [treeFault_zero]
    exact (TreeFault_nil a cap w).mono fun e w' ⟨h1, h2⟩ => ⟨h1, by rw [← h2]; exact Below.refl _ _⟩
  · exact TreeFault_at b off cap l w h1 h2 h3 h4 h5
theorem nods_below {N : Nat} {w w' : World} {v : Value} {l : List Nod} (h : SliceC N 12 (NodC N) w [v] l) (hb : Below w.heap.size w w') : SliceC N 12 (NodC N) w' [v] l :=
  h.below (fun _ _ ⟨h1, h2⟩ => ⟨h1, h2.below hb⟩) hb
open Go.Creel Go.RowKit
abbrev boxOf (x : Nod) : Obj := .cells #[.string x.path, .int .i64 x.kind, .int .i64 x.same, .string x.target, .int .i64 x.mt.mode, .int .i64 x.mt.uid, .int .i64 x.mt.gid, .string x.mt.user, .string x.mt.group, .int .i64 x.mt.second, .int .i64 x.mt.nano, .slice x.da x.data.length x.dcap] 60
end Go.Proofs.YtaffgndickdbiaaDoor
