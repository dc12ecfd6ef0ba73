/-
  fault.First and its reference.
-/
import Derived.Test.YtllocidmpdpmlabDoorFltCheck
import Derived.Test.YtllocidmpdpmlabDoorEntsCheck
namespace Go.Creel
set_option linter.unusedVariables false
open Go.RowKit
/-- member i is a file that a fault speaks of -/
def HitF (l : List Ent) (f : List Flt) (i : Nat) : Prop := fltFind f (ek l i).path < f.length ∧ (ek l i).kind = 1
open Classical in
noncomputable def firstF (l : List Ent) (f : List Flt) : Flt × Int × Int :=
  if ¬ entsFault l = 0 then (fltZ, 0, entsFault l) else if ¬ fltsFault f = 0 then (fltZ, 0, fltsFault f)
  else if h : ∃ i, i < l.length ∧ HitF l f i ∧ ∀ j, j < i → ¬ HitF l f j then (fk f (fltFind f (ek l (Classical.choose h)).path), ((Classical.choose h : Nat) : Int), 0) else (fltZ, 0, 5)
theorem firstF_ents {l : List Ent} {f : List Flt} (h : ¬ entsFault l = 0) : firstF l f = (fltZ, 0, entsFault l) := by unfold firstF; rw [if_pos h]
theorem firstF_flts {l : List Ent} {f : List Flt} (h : entsFault l = 0) (h1 : ¬ fltsFault f = 0) : firstF l f = (fltZ, 0, fltsFault f) := by unfold firstF; rw [if_neg (by simpa using h), if_pos h1]
theorem firstF_at {l : List Ent} {f : List Flt} {i : Nat} (h : entsFault l = 0) (h1 : fltsFault f = 0) (hi : i < l.length) (h2 : HitF l f i) (h3 : ∀ j, j < i → ¬ HitF l f j) : firstF l f = (fk f (fltFind f (ek l i).path), ((i : Nat) : Int), 0) := by
  have hex : ∃ i, i < l.length ∧ HitF l f i ∧ ∀ j, j < i → ¬ HitF l f j := ⟨i, hi, h2, h3⟩
  unfold firstF
  rw [if_neg (by simpa using h), if_neg (by simpa using h1), dif_pos hex]
  obtain ⟨a, b, c⟩ := Classical.choose_spec hex
  have : Classical.choose hex = i := by
    rcases Nat.lt_trichotomy (Classical.choose hex) i with e | e | e
    · exact absurd b (h3 _ e)
    · exact e
    · exact absurd h2 (c _ e)
  rw [this]
theorem firstF_none {l : List Ent} {f : List Flt} (h : entsFault l = 0) (h1 : fltsFault f = 0) (h3 : ∀ j, j < l.length → ¬ HitF l f j) : firstF l f = (fltZ, 0, 5) := by
  unfold firstF
  rw [if_neg (by simpa using h), if_neg (by simpa using h1), dif_neg (by rintro ⟨i, a, b, _⟩; exact h3 i a b)]
/-- the reference's loop -/
def RefI (l : List Ent) (f : List Flt) (j at_ : Nat) (out : Flt) : Prop :=
  (∀ q, q < j → entFind l (fk f q).path < l.length → (ek l (entFind l (fk f q).path)).kind = 1 → at_ ≤ entFind l (fk f q).path) ∧
  ((at_ = l.length ∧ out = fltZ) ∨ (at_ < l.length ∧ ∃ q, q < j ∧ entFind l (fk f q).path = at_ ∧ (ek l at_).kind = 1 ∧ out = fk f q))
theorem ents_ne {l : List Ent} (h : entsFault l = 0) {i : Nat} (hi : i < l.length) : entFind l (ek l i).path = i := by
  have hz := (entsFault_all h).2
  have hne := chain_ne (p := fun j => (ek l j).path) (k := i) (fun q h0 h1 => (stepE_zero (hz q (by omega))).2 h0)
  exact entFind_at hi (fun j hj => hne j hj) rfl
theorem flts_ne {f : List Flt} (h : fltsFault f = 0) {q : Nat} (hq : q < f.length) : fltFind f (fk f q).path = q :=
  fltFind_at hq (fun j hj => (stepL_zero ((fltsFault_all h).2 q hq)).2.2 j hj) rfl
theorem refI_end {l : List Ent} {f : List Flt} {at_ : Nat} {out : Flt} (h : entsFault l = 0) (h1 : fltsFault f = 0) (hr : RefI l f f.length at_ out) : firstF l f = if at_ = l.length then (fltZ, 0, 5) else (out, ((at_ : Nat) : Int), 0) := by
  have key : ∀ i, i < l.length → HitF l f i → at_ ≤ i := by
    intro i hi ⟨a, b⟩
    have hp := fltFind_lt a
    have he : entFind l (fk f (fltFind f (ek l i).path)).path = i := by rw [hp]; exact ents_ne h hi
    have := hr.1 _ a (by rw [he]; exact hi) (by rw [he]; exact b)
    rwa [he] at this
  rcases hr.2 with ⟨e1, e2⟩ | ⟨e1, q, hq, e2, e3, e4⟩
  · rw [if_pos e1]
    exact firstF_none h h1 (fun j hj hh => by have := key j hj hh; omega)
  · rw [if_neg (by omega)]
    have hp : (ek l at_).path = (fk f q).path := by rw [← e2]; exact entFind_lt (by rw [e2]; exact e1)
    have hf : fltFind f (ek l at_).path = q := by rw [hp]; exact flts_ne h1 hq
    rw [firstF_at h h1 e1 ⟨by rw [hf]; exact hq, e3⟩ (fun j hj hh => by have := key j (by omega) hh; omega), hf, e4]
theorem refI_no {l : List Ent} {f : List Flt} {j at_ : Nat} {out : Flt} (hr : RefI l f j at_ out) (h : ¬ (entFind l (fk f j).path < at_ ∧ (ek l (entFind l (fk f j).path)).kind = 1)) : RefI l f (j + 1) at_ out := by
  refine ⟨fun q hq h1 h2 => ?_, ?_⟩
  · by_cases e : q = j
    · subst e
      exact Classical.byContradiction fun e => h ⟨by omega, h2⟩
    · exact hr.1 q (by omega) h1 h2
  · rcases hr.2 with e | ⟨e1, q, hq, e⟩
    · exact .inl e
    · exact .inr ⟨e1, q, by omega, e⟩
theorem refI_le {l : List Ent} {f : List Flt} {j at_ : Nat} {out : Flt} (hr : RefI l f j at_ out) : at_ ≤ l.length := by
  rcases hr.2 with ⟨e, _⟩ | ⟨e, _⟩ <;> omega
theorem refI_yes {l : List Ent} {f : List Flt} {j at_ : Nat} {out : Flt} (hr : RefI l f j at_ out) (h : entFind l (fk f j).path < at_) (hk : (ek l (entFind l (fk f j).path)).kind = 1) : RefI l f (j + 1) (entFind l (fk f j).path) (fk f j) := by
  have := refI_le hr
  refine ⟨fun q hq h1 h2 => ?_, .inr ⟨by omega, j, by omega, rfl, hk, rfl⟩⟩
  by_cases e : q = j
  · rw [e]; exact Nat.le_refl _
  · have := hr.1 q (by omega) h1 h2; omega
theorem refI_start (l : List Ent) (f : List Flt) : RefI l f 0 l.length fltZ := ⟨fun q hq => absurd hq (by omega), .inl ⟨rfl, rfl⟩⟩
/-- a variable that holds a fault -/
def BoxF (t : TypeId) (w : World) (b : Nat) (x : Flt) : Prop := w.heap[b]? = some (.cells #[.string x.path, .int .i64 x.code] t (0, 0))
theorem BoxF.new (t : TypeId) (w : World) (x : Flt) : BoxF t (w.alloc (.cells #[.string x.path, .int .i64 x.code] t)) w.heap.size x := heap_alloc_new w _
theorem BoxF.lt {t : TypeId} {w : World} {b : Nat} {x : Flt} (h : BoxF t w b x) : b < w.heap.size := (Array.getElem?_eq_some_iff.1 h).1
theorem BoxF.below {t : TypeId} {w w' : World} {b : Nat} {x : Flt} (h : BoxF t w b x) (hb : Below w.heap.size w w') : BoxF t w' b x := (hb.block b h.lt).trans h
theorem BoxF.cells {t : TypeId} {w : World} {b : Nat} {x : Flt} (h : BoxF t w b x) : w.cell? ⟨b, 0, none⟩ = some (.string x.path) ∧ w.cell? ⟨b, 1, none⟩ = some (.int .i64 x.code) ∧ w.frozen? ⟨b, 0, none⟩ = false ∧ w.frozen? ⟨b, 1, none⟩ = false :=
  ⟨by rw [cell_of_row w b 0 _ t (0, 0) h]; rfl, by rw [cell_of_row w b 1 _ t (0, 0) h]; rfl, frozen_of_row w b 0 _ t h, frozen_of_row w b 1 _ t h⟩
theorem BoxF.store {t : TypeId} {w : World} {b : Nat} {x : Flt} (h : BoxF t w b x) (y : Flt) : BoxF t ((w.setCell ⟨b, 0, none⟩ (.string y.path)).setCell ⟨b, 1, none⟩ (.int .i64 y.code)) b y := by
  have h1 := heap_setCell_same w b 0 _ t (.string y.path) h
  exact heap_setCell_same _ b 1 _ t (.int .i64 y.code) h1
theorem ents_some {N : Nat} {w : World} {la : Option Addr} {lcap : Nat} {l : List Ent} (h : SliceC N 11 (EntC N) w [.slice la l.length lcap] l) (hp : 0 < l.length) : ∃ b off, la = some ⟨b, off, none⟩ ∧ EntsAt w b off l ∧ l.length ≤ lcap ∧ lcap ≤ maxLen := by
  rcases ents_cases h with ⟨a, cap, e, rfl, _⟩ | ⟨b, off, cap, e, _, h2, h3, _, h4, _⟩
  · simp at hp
  · simp only [Value.slice.injEq] at e
    obtain ⟨e1, _, e3⟩ := e
    exact ⟨b, off, e1, h4, by omega, by omega⟩
theorem flts_some {N : Nat} {w : World} {la : Option Addr} {lcap : Nat} {l : List Flt} (h : SliceC N 2 (FltC N) w [.slice la l.length lcap] l) (hp : 0 < l.length) : ∃ b off, la = some ⟨b, off, none⟩ ∧ FltsAt w b off l ∧ l.length ≤ lcap ∧ lcap ≤ maxLen := by
  rcases flts_cases h with ⟨a, cap, e, rfl, _⟩ | ⟨b, off, cap, e, _, h2, h3, _, h4, _⟩
  · simp at hp
  · simp only [Value.slice.injEq] at e
    obtain ⟨e1, _, e3⟩ := e
    exact ⟨b, off, e1, h4, by omega, by omega⟩
theorem results_cell_tmp3 {fn : Func} {p u x : Tmp} {ty : TypeId} (h : fn.results = #[.cell p ty, .tmp u, .tmp x]) (tmps : Array Value) (P : Program) (w : World) :
    (results fn tmps).run P w =
      ((asAddr (tmps.getD p undef)).run P w).andThen fun a w₁ => ((loadVar ty a).run P w₁).andThen fun v w₂ => .ok (.tuple #[v, tmps.getD u undef, tmps.getD x undef]) w₂ := by
  simp only [results, h]
  simp [Sem.run_bind, Result.andThen]
end Go.Creel
namespace Go.Proofs.YtllocidmpdpmlabDoor
set_option linter.unusedVariables false
set_option linter.unusedSimpArgs false
open Go.Creel Go.RowKit
theorem FltIndex_any (v : Value) (f : List Flt) (s : ByteArray) (w : World) (h : SliceC maxLen 2 (FltC maxLen) w [v] f) :
    Calls Tryd.prog 83 #[v, .string s] w fun e w' => e = .returned (.int .i64 (idxOf (fltFind f s) f.length)) ∧ Below w.heap.size w w' := by
  rcases flts_cases h with ⟨a, cap, rfl, rfl, _⟩ | ⟨b, off, cap, rfl, h1, h2, h3, _, h4, h5⟩
  · exact FltIndex_nil a cap s w
  · exact FltIndex_at b off cap f s w h2 h3 h4
set_option maxRecDepth 100000 in
theorem EntryAt_nil (a : Option Addr) (cap : Nat) (s : ByteArray) (w : World) :
    Calls Tryd.prog 80 #[.slice a 0 cap, .string s] w fun e w' => e = .returned (.int .i64 0) ∧ w = w' := by
  go_enter Tryd.func80, Tryd.ntmps80
  go_wp2
  go_loop [5] (fun i => i = .int .i64 0) (fun i => 0)
  case atStart => rfl
  case round =>
    obtain rfl := hrel
    go_wp2
    go_ret
    exact ⟨rfl, rfl⟩
theorem EntryAt_any (v : Value) (l : List Ent) (s : ByteArray) (w : World) (h : SliceC maxLen 11 (EntC maxLen) w [v] l) :
    Calls Tryd.prog 80 #[v, .string s] w fun e w' => e = .returned (.int .i64 (entFind l s)) ∧ Below w.heap.size w w' := by
  rcases ents_cases h with ⟨a, cap, rfl, rfl, _⟩ | ⟨b, off, cap, rfl, h1, h2, h3, _, h4, h5⟩
  · exact (EntryAt_nil a cap s w).mono fun e w' ⟨h1, h2⟩ => ⟨h1, by rw [← h2]; exact Below.refl _ _⟩
  · exact (EntryAt_at b off cap l s w h2 h3 h4).mono fun e w' ⟨h1, h2⟩ => ⟨h1, by rw [← h2]; exact Below.refl _ _⟩
set_option maxRecDepth 100000 in
set_option maxHeartbeats 4000000 in
theorem FirstL_at (la fa : Option Addr) (lcap fcap : Nat) (l : List Ent) (f : List Flt) (w : World) (hM : MaxOk w) (hl : SliceC maxLen 11 (EntC maxLen) w [.slice la l.length lcap] l) (hf : SliceC maxLen 2 (FltC maxLen) w [.slice fa f.length fcap] f) :
    Calls Tryd.prog 31 #[.slice la l.length lcap, .slice fa f.length fcap] w fun e w' => e = .returned (.tuple #[(firstF l f).1.val, .int .i64 (firstF l f).2.1, .int .i64 (firstF l f).2.2]) ∧ Below w.heap.size w w' := by
  have HM := Lib.hid hM
  have HL := Lib.hid hl
  have HFS := Lib.hid hf
  have HB0 := Lib.hid ((Below.refl w.heap.size w).alloc (Nat.le_refl _) (.cells #[.string ⟨#[]⟩, .int .i64 0] 47))
  have HBX := Lib.hid (BoxF.new 47 w fltZ)
  have hll : l.length ≤ 9223372036854775807 := by obtain ⟨_, _, _, _, _, h, _⟩ := hl; unfold maxLen at h; omega
  have hfl : f.length ≤ 9223372036854775807 := by obtain ⟨_, _, _, _, _, h, _⟩ := hf; unfold maxLen at h; omega
  clear hl hf hM
  by_cases hE : entsFault l = 0
  · have HE := Lib.hid hE
    clear hE
    by_cases hG : fltsFault f = 0
    · have HG := Lib.hid hG
      clear hG
      go_enter Tryd.func31, Tryd.ntmps31
      go_wp2_with fail
      refine (EntsCheck_any _ l _ (HM.out.below HB0.out) (ents_below HL.out HB0.out)).mono ?_
      rintro e w1 ⟨rfl, hb⟩
      have HB1 := Lib.hid (HB0.out.trans (hb.mono HB0.out.size))
      have HBX1 := Lib.hid (HBX.out.below hb)
      have HL1 := Lib.hid (ents_below HL.out HB1.out)
      have HF1 := Lib.hid (flts_below HFS.out HB1.out)
      clear hb
      generalize hbx : w.heap.size = bx at HBX1
      have HGE : Hid (w.heap.size ≤ bx) := Lib.hid (by rw [hbx]; exact Nat.le_refl _)
      rw [HE.out]
      go_wp2_with fail
      refine (FaultsL_any _ f _ (HM.out.below HB1.out) HF1.out).mono ?_
      rintro e w2 ⟨rfl, hb⟩
      have HB2 := Lib.hid (HB1.out.trans (hb.mono HB1.out.size))
      have HBX2 := Lib.hid (HBX1.out.below hb)
      have HL2 := Lib.hid (ents_below HL1.out hb)
      have HF2 := Lib.hid (flts_below HF1.out hb)
      clear hb
      rw [HG.out]
      go_wp2
      go_loopw [9, 10, 11, 26] (fun _ _ _ i wr => ∃ k : Nat, k ≤ l.length ∧ i = .int .i64 k ∧ Hid (∀ j, j < k → ¬ HitF l f j) ∧ Hid (Below w2.heap.size w2 wr)) (fun _ _ _ i _ => l.length - (intOf i).toNat)
      case atStart => exact ⟨0, by omega, rfl, Lib.hid fun j hj => absurd hj (by omega), Lib.hid (Below.refl _ _)⟩
      case round =>
        obtain ⟨k, hk, rfl, HD, HB⟩ := hrel
        by_cases hlt : k < l.length
        · obtain ⟨b, off, rfl, hce, _, _⟩ := ents_some HL2.out (by omega)
          obtain ⟨h0, h1, h2, h3, h4, h5, h6, h7, h8, h9, h10⟩ := (hce.below HB.out) k hlt
          have HBE := Lib.hid (entAt_box wr (ek l k) 103)
          clear hce
          go_wp2_with fail
          refine (FltIndex_any _ f (ek l k).path _ (flts_below HF2.out (HB.out.alloc HB.out.size _))).mono ?_
          rintro e w3 ⟨rfl, hb⟩
          have HB3 := Lib.hid ((HB.out.alloc HB.out.size _).trans (hb.mono (by simp; exact Nat.le_succ_of_le HB.out.size)))
          have HBE3 := Lib.hid (HBE.out.below hb)
          clear hb h0 h1 h2 h3 h4 h5 h6 h7 h8 h9 h10
          generalize wr.heap.size = be at *
          obtain ⟨_, g1, _⟩ := HBE3.out.zero
          by_cases hn : fltFind f (ek l k).path < f.length
          · rw [show idxOf (fltFind f (ek l k).path) f.length = (fltFind f (ek l k).path : Nat) from if_pos hn]
            by_cases hk1 : (ek l k).kind = 1
            · have HF := Lib.hid (firstF_at HE.out HG.out hlt ⟨hn, hk1⟩ HD.out)
              obtain ⟨fb, fo, rfl, hcf, _, _⟩ := flts_some HF2.out (by omega)
              obtain ⟨y0, y1⟩ := (hcf.below HB3.out) _ hn
              obtain ⟨c0, c1, c2, c3⟩ := (HBX2.out.below HB3.out).cells
              have hkb : ((ek l k).kind == 1) = true := by rw [hk1]; rfl
              have hnf : ((fltFind f (ek l k).path : Nat) : Int) < (f.length : Int) := by omega
              have HB4 := Lib.hid (HB2.out.trans (HB3.out.mono HB2.out.size))
              clear hcf hk1
              generalize fltFind f (ek l k).path = n at *
              go_wp2
              (try simp only [Exit.inBlock, Exit.then])
              refine bodyPost_ret (v := .tuple #[.agg #[.string (fk f n).path, .int .i64 (fk f n).code], .int .i64 k, .int .i64 0]) (by rw [results_cell_tmp3 rfl]; go_simp) rfl ?_
              rw [HF.out]
              exact ⟨rfl, (HB4.out.setCell HGE.out _).setCell HGE.out _⟩
            · have HNH := Lib.hid (show ¬ HitF l f k from fun h => hk1 h.2)
              have hkb : ((ek l k).kind == 1) = false := by rw [beq_eq_false_iff_ne]; exact hk1
              clear hk1
              generalize fltFind f (ek l k).path = n at *
              go_wp2
              go_roundw
              case rel => exact ⟨k + 1, by omega, by go_num, Lib.hid fun j hj => by
                by_cases e : j = k
                · rw [e]; exact HNH.out
                · exact HD.out j (by omega), HB3⟩
              case measure => simp [intOf]; omega
          · rw [show idxOf (fltFind f (ek l k).path) f.length = -1 from if_neg hn]
            have HNH := Lib.hid (show ¬ HitF l f k from fun h => hn h.1)
            clear hn
            go_wp2
            go_roundw
            case rel => exact ⟨k + 1, by omega, by go_num, Lib.hid fun j hj => by
              by_cases e : j = k
              · rw [e]; exact HNH.out
              · exact HD.out j (by omega), HB3⟩
            case measure => simp [intOf]; omega
        · obtain rfl : k = l.length := by omega
          have HF := Lib.hid (firstF_none HE.out HG.out HD.out)
          obtain ⟨c0, c1, c2, c3⟩ := (HBX2.out.below HB.out).cells
          have HB4 := Lib.hid (HB2.out.trans (HB.out.mono HB2.out.size))
          go_wp2
          (try simp only [Exit.inBlock, Exit.then])
          refine bodyPost_ret (v := .tuple #[.agg #[.string ⟨#[]⟩, .int .i64 0], .int .i64 0, .int .i64 5]) (by rw [results_cell_tmp3 rfl]; go_simp) rfl ?_
          rw [HF.out]
          exact ⟨rfl, (HB4.out.setCell HGE.out _).setCell HGE.out _⟩
    · have HF := Lib.hid (firstF_flts HE.out hG)
      have HG := Lib.hid hG
      clear hG
      go_enter Tryd.func31, Tryd.ntmps31
      go_wp2_with fail
      refine (EntsCheck_any _ l _ (HM.out.below HB0.out) (ents_below HL.out HB0.out)).mono ?_
      rintro e w1 ⟨rfl, hb⟩
      have HB1 := Lib.hid (HB0.out.trans (hb.mono HB0.out.size))
      have HBX1 := Lib.hid (HBX.out.below hb)
      have HL1 := Lib.hid (ents_below HL.out HB1.out)
      have HF1 := Lib.hid (flts_below HFS.out HB1.out)
      clear hb
      generalize hbx : w.heap.size = bx at HBX1
      have HGE : Hid (w.heap.size ≤ bx) := Lib.hid (by rw [hbx]; exact Nat.le_refl _)
      rw [HE.out]
      go_wp2_with fail
      refine (FaultsL_any _ f _ (HM.out.below HB1.out) HF1.out).mono ?_
      rintro e w2 ⟨rfl, hb⟩
      have HB2 := Lib.hid (HB1.out.trans (hb.mono HB1.out.size))
      have HBX2 := Lib.hid (HBX1.out.below hb)
      have HL2 := Lib.hid (ents_below HL1.out hb)
      have HF2 := Lib.hid (flts_below HF1.out hb)
      clear hb
      have hne := HG.out
      obtain ⟨c0, c1, c2, c3⟩ := HBX2.out.cells
      generalize fltsFault f = q at *
      go_wp2
      (try simp only [Exit.inBlock, Exit.then])
      refine bodyPost_ret (v := .tuple #[.agg #[.string ⟨#[]⟩, .int .i64 0], .int .i64 0, .int .i64 q]) (by rw [results_cell_tmp3 rfl]; go_simp) rfl ?_
      rw [HF.out]
      exact ⟨rfl, (HB2.out.setCell HGE.out _).setCell HGE.out _⟩
  · have HF := Lib.hid (firstF_ents (f := f) hE)
    have HE := Lib.hid hE
    clear hE
    go_enter Tryd.func31, Tryd.ntmps31
    go_wp2_with fail
    refine (EntsCheck_any _ l _ (HM.out.below HB0.out) (ents_below HL.out HB0.out)).mono ?_
    rintro e w1 ⟨rfl, hb⟩
    have HB1 := Lib.hid (HB0.out.trans (hb.mono HB0.out.size))
    have HBX1 := Lib.hid (HBX.out.below hb)
    have HL1 := Lib.hid (ents_below HL.out HB1.out)
    have HF1 := Lib.hid (flts_below HFS.out HB1.out)
    clear hb
    generalize hbx : w.heap.size = bx at HBX1
    have HGE : Hid (w.heap.size ≤ bx) := Lib.hid (by rw [hbx]; exact Nat.le_refl _)
    have hne := HE.out
    obtain ⟨c0, c1, c2, c3⟩ := HBX1.out.cells
    generalize entsFault l = q at *
    go_wp2
    (try simp only [Exit.inBlock, Exit.then])
    refine bodyPost_ret (v := .tuple #[.agg #[.string ⟨#[]⟩, .int .i64 0], .int .i64 0, .int .i64 q]) (by rw [results_cell_tmp3 rfl]; go_simp) rfl ?_
    rw [HF.out]
    exact ⟨rfl, (HB1.out.setCell HGE.out _).setCell HGE.out _⟩
set_option maxRecDepth 100000 in
set_option maxHeartbeats 4000000 in
theorem FirstR_at (la fa : Option Addr) (lcap fcap : Nat) (l : List Ent) (f : List Flt) (w : World) (hl : SliceC maxLen 11 (EntC maxLen) w [.slice la l.length lcap] l) (hf : SliceC maxLen 2 (FltC maxLen) w [.slice fa f.length fcap] f) :
    Calls Tryd.prog 33 #[.slice la l.length lcap, .slice fa f.length fcap] w fun e w' => e = .returned (.tuple #[(firstF l f).1.val, .int .i64 (firstF l f).2.1, .int .i64 (firstF l f).2.2]) ∧ Below w.heap.size w w' := by

  have HL := Lib.hid hl
  have HFS := Lib.hid hf
  have HB0 := Lib.hid ((Below.refl w.heap.size w).alloc (Nat.le_refl _) (.cells #[.string ⟨#[]⟩, .int .i64 0] 47))
  have HBX := Lib.hid (BoxF.new 47 w fltZ)
  have hll : l.length ≤ 9223372036854775807 := by obtain ⟨_, _, _, _, _, h, _⟩ := hl; unfold maxLen at h; omega
  have hfl : f.length ≤ 9223372036854775807 := by obtain ⟨_, _, _, _, _, h, _⟩ := hf; unfold maxLen at h; omega
  clear hl hf 
  by_cases hE : entsFault l = 0
  · have HE := Lib.hid hE
    clear hE
    by_cases hG : fltsFault f = 0
    · have HG := Lib.hid hG
      clear hG
      go_enter Tryd.func33, Tryd.ntmps33
      go_wp2_with fail
      refine (EntsFault_any _ l _ (ents_below HL.out HB0.out)).mono ?_
      rintro e w1 ⟨rfl, hb⟩
      have HB1 := Lib.hid (HB0.out.trans (hb.mono HB0.out.size))
      have HBX1 := Lib.hid (HBX.out.below hb)
      have HL1 := Lib.hid (ents_below HL.out HB1.out)
      have HF1 := Lib.hid (flts_below HFS.out HB1.out)
      clear hb
      generalize hbx : w.heap.size = bx at HBX1
      have HGE : Hid (w.heap.size ≤ bx) := Lib.hid (by rw [hbx]; exact Nat.le_refl _)
      rw [HE.out]
      go_wp2_with fail
      refine (FaultsR_any _ f _ HF1.out).mono ?_
      rintro e w2 ⟨rfl, hb⟩
      have HB2 := Lib.hid (HB1.out.trans (hb.mono HB1.out.size))
      have HBX2 := Lib.hid (HBX1.out.below hb)
      have HL2 := Lib.hid (ents_below HL1.out hb)
      have HF2 := Lib.hid (flts_below HF1.out hb)
      clear hb
      rw [HG.out]
      have HOB := Lib.hid (BoxF.new 47 w2 fltZ)
      have HBA := Lib.hid ((Below.refl w2.heap.size w2).alloc (Nat.le_refl _) (.cells #[.string ⟨#[]⟩, .int .i64 0] 47))
      go_wp2
      generalize hob : w2.heap.size = ob at HOB
      have HOG : Hid (w2.heap.size ≤ ob) := Lib.hid (by rw [hob]; exact Nat.le_refl _)
      go_loopw [9, 12, 13, 31] (fun a _ _ i wr => ∃ (k at_ : Nat) (out : Flt), k ≤ f.length ∧ i = .int .i64 k ∧ a = .int .i64 at_ ∧ Hid (RefI l f k at_ out) ∧ Hid (BoxF 47 wr ob out) ∧ Hid (Below w2.heap.size w2 wr)) (fun _ _ _ i _ => f.length - (intOf i).toNat)
      case atStart => exact ⟨0, l.length, fltZ, by omega, rfl, rfl, Lib.hid (refI_start l f), HOB, HBA⟩
      case round =>
        obtain ⟨k, at_, out, hk, rfl, rfl, HR, HO, HB⟩ := hrel
        have hal := refI_le HR.out
        by_cases hlt : k < f.length
        · obtain ⟨b, off, rfl, hce, _, _⟩ := flts_some HF2.out (by omega)
          obtain ⟨h0, h1⟩ := (hce.below HB.out) k hlt
          have HBE := Lib.hid (fltAt_box wr (fk f k) 47)
          clear hce
          go_wp2_with fail
          refine (EntryAt_any _ l (fk f k).path _ (ents_below HL2.out (HB.out.alloc HB.out.size _))).mono ?_
          rintro e w3 ⟨rfl, hb⟩
          have HB3 := Lib.hid ((HB.out.alloc HB.out.size _).trans (hb.mono (by simp; exact Nat.le_succ_of_le HB.out.size)))
          have HBE3 := Lib.hid (HBE.out.below hb)
          have HO3 := Lib.hid ((HO.out.below ((Below.refl _ _).alloc (Nat.le_refl _) _)).below hb)
          clear hb h0 h1
          generalize wr.heap.size = be at *
          obtain ⟨g0, g1⟩ := HBE3.out.zero
          have HNO := Lib.hid (fun h => refI_no HR.out h)
          have HYE := Lib.hid (fun h h2 => refI_yes HR.out h h2)
          generalize entFind l (fk f k).path = n at *
          by_cases hn : n < at_
          · obtain ⟨eb, eo, rfl, hcf, _, _⟩ := ents_some HL2.out (by omega)
            obtain ⟨_, q1, _⟩ := (hcf.below HB3.out) n (by omega)
            have hnl : (n : Int) < (l.length : Int) := by omega
            clear hcf
            by_cases hk1 : (ek l n).kind = 1
            · have HR2 := Lib.hid (HYE.out hn hk1)
              have hkb : ((ek l n).kind == 1) = true := by rw [hk1]; rfl
              obtain ⟨c0, c1, c2, c3⟩ := HO3.out.cells
              clear hk1
              go_wp2
              go_roundw
              case rel => exact ⟨k + 1, n, fk f k, by omega, by go_num, rfl, HR2, Lib.hid (HO3.out.store (fk f k)), Lib.hid ((HB3.out.setCell HOG.out _).setCell HOG.out _)⟩
              case measure => simp [intOf]; omega
            · have HR2 := Lib.hid (HNO.out (fun h => hk1 h.2))
              have hkb : ((ek l n).kind == 1) = false := by rw [beq_eq_false_iff_ne]; exact hk1
              clear hk1
              go_wp2
              go_roundw
              case rel => exact ⟨k + 1, at_, out, by omega, by go_num, rfl, HR2, HO3, HB3⟩
              case measure => simp [intOf]; omega
          · have HR2 := Lib.hid (HNO.out (fun h => hn h.1))
            go_wp2
            go_roundw
            case rel => exact ⟨k + 1, at_, out, by omega, by go_num, rfl, HR2, HO3, HB3⟩
            case measure => simp [intOf]; omega
        · obtain rfl : k = f.length := by omega
          obtain ⟨c0, c1, c2, c3⟩ := (HBX2.out.below HB.out).cells
          obtain ⟨o0, o1, _, _⟩ := HO.out.cells
          have HB4 := Lib.hid (HB2.out.trans (HB.out.mono HB2.out.size))
          by_cases hat : at_ = l.length
          · have HF := Lib.hid ((refI_end HE.out HG.out HR.out).trans (if_pos hat))
            have hab : ((at_ : Int) == (l.length : Int)) = true := by rw [hat]; simp
            go_wp2
            (try simp only [Exit.inBlock, Exit.then])
            refine bodyPost_ret (v := .tuple #[.agg #[.string ⟨#[]⟩, .int .i64 0], .int .i64 0, .int .i64 5]) (by rw [results_cell_tmp3 rfl]; go_simp) rfl ?_
            rw [HF.out]
            exact ⟨rfl, (HB4.out.setCell HGE.out _).setCell HGE.out _⟩
          · have HF := Lib.hid ((refI_end HE.out HG.out HR.out).trans (if_neg hat))
            have hab : ((at_ : Int) == (l.length : Int)) = false := by rw [beq_eq_false_iff_ne]; omega
            go_wp2
            (try simp only [Exit.inBlock, Exit.then])
            refine bodyPost_ret (v := .tuple #[.agg #[.string out.path, .int .i64 out.code], .int .i64 at_, .int .i64 0]) (by rw [results_cell_tmp3 rfl]; go_simp) rfl ?_
            rw [HF.out]
            exact ⟨rfl, (HB4.out.setCell HGE.out _).setCell HGE.out _⟩
    · have HF := Lib.hid (firstF_flts HE.out hG)
      have HG := Lib.hid hG
      clear hG
      go_enter Tryd.func33, Tryd.ntmps33
      go_wp2_with fail
      refine (EntsFault_any _ l _ (ents_below HL.out HB0.out)).mono ?_
      rintro e w1 ⟨rfl, hb⟩
      have HB1 := Lib.hid (HB0.out.trans (hb.mono HB0.out.size))
      have HBX1 := Lib.hid (HBX.out.below hb)
      have HL1 := Lib.hid (ents_below HL.out HB1.out)
      have HF1 := Lib.hid (flts_below HFS.out HB1.out)
      clear hb
      generalize hbx : w.heap.size = bx at HBX1
      have HGE : Hid (w.heap.size ≤ bx) := Lib.hid (by rw [hbx]; exact Nat.le_refl _)
      rw [HE.out]
      go_wp2_with fail
      refine (FaultsR_any _ f _ HF1.out).mono ?_
      rintro e w2 ⟨rfl, hb⟩
      have HB2 := Lib.hid (HB1.out.trans (hb.mono HB1.out.size))
      have HBX2 := Lib.hid (HBX1.out.below hb)
      have HL2 := Lib.hid (ents_below HL1.out hb)
      have HF2 := Lib.hid (flts_below HF1.out hb)
      clear hb
      have hne := HG.out
      obtain ⟨c0, c1, c2, c3⟩ := HBX2.out.cells
      generalize fltsFault f = q at *
      go_wp2
      (try simp only [Exit.inBlock, Exit.then])
      refine bodyPost_ret (v := .tuple #[.agg #[.string ⟨#[]⟩, .int .i64 0], .int .i64 0, .int .i64 q]) (by rw [results_cell_tmp3 rfl]; go_simp) rfl ?_
      rw [HF.out]
      exact ⟨rfl, (HB2.out.setCell HGE.out _).setCell HGE.out _⟩
  · have HF := Lib.hid (firstF_ents (f := f) hE)
    have HE := Lib.hid hE
    clear hE
    go_enter Tryd.func33, Tryd.ntmps33
    go_wp2_with fail
    refine (EntsFault_any _ l _ (ents_below HL.out HB0.out)).mono ?_
    rintro e w1 ⟨rfl, hb⟩
    have HB1 := Lib.hid (HB0.out.trans (hb.mono HB0.out.size))
    have HBX1 := Lib.hid (HBX.out.below hb)
    have HL1 := Lib.hid (ents_below HL.out HB1.out)
    have HF1 := Lib.hid (flts_below HFS.out HB1.out)
    clear hb
    generalize hbx : w.heap.size = bx at HBX1
    have HGE : Hid (w.heap.size ≤ bx) := Lib.hid (by rw [hbx]; exact Nat.le_refl _)
    have hne := HE.out
    obtain ⟨c0, c1, c2, c3⟩ := HBX1.out.cells
    generalize entsFault l = q at *
    go_wp2
    (try simp only [Exit.inBlock, Exit.then])
    refine bodyPost_ret (v := .tuple #[.agg #[.string ⟨#[]⟩, .int .i64 0], .int .i64 0, .int .i64 q]) (by rw [results_cell_tmp3 rfl]; go_simp) rfl ?_
    rw [HF.out]
    exact ⟨rfl, (HB1.out.setCell HGE.out _).setCell HGE.out _⟩
end Go.Proofs.YtllocidmpdpmlabDoor
