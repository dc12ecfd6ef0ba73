/-
  glob.part, walked.
-/
import Derived.Test.YtecmcgedeaemgaaDoorFitSpec
import Derived.Test.YtecmcgedeaemgaaDoorWild
import Derived.Test.YtecmcgedeaemgaaDoorGlobSplit
import Derived.Test.YtecmcgedeaemgaaDoorEnter
import Derived.StillTailTactics
namespace Go.Creel
set_option linter.unusedVariables false
set_option linter.unusedSimpArgs false
open Go.RowKit
/-- what the closures of glob.part read: the texts of the pattern's signs, and the text -/
structure PartE (t : TypeId) (w : World) (bl bs : Nat) (v : Value) (B : Nat) (l : List ByteArray) (s : ByteArray) : Prop where
  lst : w.cell? ⟨bl, 0, none⟩ = some v
  own : OwnSs t w B v l
  str : w.cell? ⟨bs, 0, none⟩ = some (.string s)
theorem PartE.below {t : TypeId} {w w' : World} {bl bs B : Nat} {v : Value} {l : List ByteArray} {s : ByteArray} (h : PartE t w bl bs v B l s) (hb : Below w.heap.size w w') : PartE t w' bl bs v B l s :=
  ⟨(hb.cell (p := ⟨bl, 0, none⟩) (World.block_lt_of_cell? w _ h.lst)).trans h.lst, h.own.below hb, (hb.cell (p := ⟨bs, 0, none⟩) (World.block_lt_of_cell? w _ h.str)).trans h.str⟩
end Go.Creel
namespace Go.Proofs.YtecmcgedeaemgaaDoor
set_option linter.unusedVariables false
set_option linter.unusedSimpArgs false
open Go.Creel Go.RowKit
set_option maxRecDepth 100000 in
theorem Part1_any (bl bs B i : Nat) (v : Value) (l : List ByteArray) (s : ByteArray) (w : World) (h : PartE 9 w bl bs v B l s) (hi : i < l.length) (hl : l.length ≤ 1000) :
    Calls Tryd.prog 138 #[.int .i64 i, .pointer (some ⟨bl, 0, none⟩)] w fun e w' => e = .returned (.bool ((piece l i).toList == [42])) ∧ Below w.heap.size w w' := by
  have c0 := h.lst
  have ho := h.own
  rcases ho.form with ⟨_, e0⟩ | ⟨g, cap, rfl, _, _, hcap, hcm⟩
  · subst e0; exact absurd hi (by simp)
  · have c1 := ho.cell hi
    clear h ho
    unfold maxLen at hcm
    generalize piece l i = p at *
    go_enter Tryd.func138, Tryd.ntmps138
    go_wp2
    go_ret
    exact ⟨rfl, Below.refl _ _⟩
set_option maxRecDepth 100000 in
theorem Part2_any (bl bs B i k : Nat) (v : Value) (l : List ByteArray) (s : ByteArray) (w : World) (h : PartE 9 w bl bs v B l s) (hi : i < l.length) (hl : l.length ≤ 1000) (hk : k < s.size) (hs : s.size ≤ 1000)
    (hg : 1 ≤ (piece l i).size ∧ (piece l i).size ≤ 400 ∧ (byt (piece l i) 0 = 91 → setEnd (piece l i) 0 + 1 = (piece l i).size)) :
    Calls Tryd.prog 139 #[.int .i64 i, .int .i64 k, .pointer (some ⟨bl, 0, none⟩), .pointer (some ⟨bs, 0, none⟩)] w fun e w' => e = .returned (.bool ((tokAt (piece l i) 0).fits (byt s k))) ∧ Below w.heap.size w w' := by
  have c0 := h.lst
  have c2 := h.str
  have ho := h.own
  rcases ho.form with ⟨_, e0⟩ | ⟨g, cap, rfl, _, _, hcap, hcm⟩
  · subst e0; exact absurd hi (by simp)
  · have c1 := ho.cell hi
    clear h ho
    unfold maxLen at hcm
    generalize piece l i = p at *
    have HS := Lib.hid (fun w => GlobSign_any p (byt s k) (byt_lt s k) w hg.1 hg.2.1 hg.2.2)
    rw [← byt_get s k hk] at HS ⊢
    clear hg
    go_enter Tryd.func139, Tryd.ntmps139
    go_wp2
    go_still_tail 7, (by kernel_rfl)
    go_wp2_with fail
    refine (HS.out _).mono ?_
    rintro e w2 ⟨rfl, hb⟩
    have HB2 := Lib.hid ((Below.refl w.heap.size w).drew.trans hb)
    clear hb
    go_wp2
    go_ret
    exact ⟨rfl, HB2.out⟩
set_option maxRecDepth 100000 in
set_option maxHeartbeats 1000000 in
theorem GlobPart_any (p s : ByteArray) (w : World) (hok : okAt p 0 = true) (h1 : 1 ≤ p.size) (hp : p.size ≤ 400) (hs : s.size ≤ 400) :
    Calls Tryd.prog 109 #[.string p, .string s] w fun e w' => e = .returned (.bool (partFits p s)) ∧ Below w.heap.size w w' := by
  have HGOOD := Lib.hid (fun i hi => cuts_good hok (i := i) hi)
  have hcl := cuts_len hok
  have hne : 0 < (cuts p 0).length := by
    have hb : ¬ tokBad p 0 := fun hb => by rw [okAt_bad (by omega) hb] at hok; cases hok
    rw [cuts_more (by omega) hb]; simp
  have HW := Lib.hid (fun (bl bs B : Nat) (v : Value) (w : World) (h : PartE 9 w bl bs v B (cuts p 0) s) =>
    Wild_any (cuts p 0).length s.size 138 139 ⟨bl, 0, none⟩ ⟨bs, 0, none⟩ (fun i => (piece (cuts p 0) i).toList == [42]) (fun i k => (tokAt (piece (cuts p 0) i) 0).fits (byt s k)) w (by omega) (by omega)
      (enter_of Tryd.func138 (by kernel_rfl) (by kernel_rfl)) (enter_of Tryd.func139 (by kernel_rfl) (by kernel_rfl))
      (fun w' i hb hi => Part1_any bl bs B i v _ s w' (h.below hb) hi (by omega))
      (fun w' i k hb hi hk => Part2_any bl bs B i k v _ s w' (h.below hb) hi (by omega) hk (by omega) (by have := HGOOD.out i hi; exact ⟨this.1, by omega, this.2.2⟩)))
  have HF := Lib.hid (show wildM (cuts p 0).length s.size (fun i => (piece (cuts p 0) i).toList == [42]) (fun i k => (tokAt (piece (cuts p 0) i) 0).fits (byt s k)) 0 0 = partFits p s from rfl)
  go_enter Tryd.func109, Tryd.ntmps109
  go_wp2_with fail
  refine (GlobSplit_any p _ hok hp).mono ?_
  rintro e w1 ⟨v, rfl, ho, hb⟩
  have hsz : w.heap.size < w1.heap.size := by have := hb.size; simp at this; omega
  have hcs : w1.cell? ⟨w.heap.size, 0, none⟩ = some (.string s) := (hb.cell (p := ⟨w.heap.size, 0, none⟩) (by simp)).trans (by simp)
  have HE := Lib.hid (show PartE 9 (w1.alloc (.cells #[v] 56)) w1.heap.size w.heap.size v _ (cuts p 0) s from ⟨by simp, ho.below ((Below.refl _ _).alloc (Nat.le_refl _) _), ((Below.refl w1.heap.size w1).alloc (Nat.le_refl _) _).cell (p := ⟨w.heap.size, 0, none⟩) hsz |>.trans hcs⟩)
  have HB1 := Lib.hid (((Below.refl w.heap.size w).alloc (Nat.le_refl _) _).trans (hb.mono (by simp)))
  rcases ho.form with ⟨rfl, e0⟩ | ⟨g, cap, rfl, _, _, hcap, hcm⟩
  · rw [e0] at hne; simp at hne
  · clear ho hb hcs
    have hc2 := HE.out.str
    go_wp2_with fail
    refine (HW.out _ _ _ _ _ HE.out).mono ?_
    rintro e w2 ⟨rfl, hb⟩
    have HB2 := Lib.hid ((HB1.out.alloc HB1.out.size _).trans (hb.mono (by have := HB1.out.size; simp; omega)))
    rw [HF.out]
    clear hb
    go_wp2
    go_ret
    exact ⟨rfl, HB2.out⟩
end Go.Proofs.YtecmcgedeaemgaaDoor
