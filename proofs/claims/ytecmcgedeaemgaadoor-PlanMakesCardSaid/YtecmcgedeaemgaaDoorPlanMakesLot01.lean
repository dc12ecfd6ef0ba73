/-
  Texts of this proof, one behind the other: GlobPart, Table, GlobPartR, GlobPaths, Takes, KeptSpec, EntsOwn, LinkSpec, PlanSpec, Ints, Meet.
-/
import Derived.Test.YtecmcgedeaemgaaDoorFitSpec
import Derived.Test.YtecmcgedeaemgaaDoorWild
import Derived.Test.YtecmcgedeaemgaaDoorGlobSplit
import Derived.Test.YtecmcgedeaemgaaDoorEnter
import Derived.StillTailTactics
import Derived.Test.YtecmcgedeaemgaaDoorGlobTokW
import Derived.Test.YtecmcgedeaemgaaDoorGlobFault
import Derived.Test.YtecmcgedeaemgaaDoorPathFault
import Derived.Test.YtecmcgedeaemgaaDoorRules
import Derived.Test.YtecmcgedeaemgaaDoorFindN
import Derived.Test.YtecmcgedeaemgaaDoorNodsOwn
import Derived.Test.YtecmcgedeaemgaaDoorEnts
import Derived.Test.YtecmcgedeaemgaaDoorTreeCheck
import Derived.Test.YtecmcgedeaemgaaDoorTreeP
import Derived.Test.YtecmcgedeaemgaaDoorData
import Derived.Test.YtecmcgedeaemgaaDoorAppend
import Derived.Test.YtecmcgedeaemgaaDoorBoxOf
/-
  glob.part, walked.
-/
namespace Go.Creel
set_option linter.unusedVariables false
set_option linter.unusedSimpArgs false
open Go.RowKit
/-- what the closures of glob.part read: the texts of the pattern's signs, and the text -/
structure PartE (t : TypeId) (w : World) (bl bs : Nat) (v : Value) (B : Nat) (l : List ByteArray) (s : ByteArray) : Prop where
  lst : w.cell? ⟨bl, 0, none⟩ = some v
  own : OwnSs t w B v l
  str : w.cell? ⟨bs, 0, none⟩ = some (.string s)
theorem PartE.below {t : TypeId} {w w' : World} {bl bs B : Nat} {v : Value} {l : List ByteArray} {s : ByteArray} (h : PartE t w bl bs v B l s) (hb : Below w.heap.size w w') : PartE t w' bl bs v B l s :=
  ⟨(hb.cell (p := ⟨bl, 0, none⟩) (World.block_lt_of_cell? w _ h.lst)).trans h.lst, h.own.below hb, (hb.cell (p := ⟨bs, 0, none⟩) (World.block_lt_of_cell? w _ h.str)).trans h.str⟩
end Go.Creel
namespace Go.Proofs.YtecmcgedeaemgaaDoor
set_option linter.unusedVariables false
set_option linter.unusedSimpArgs false
open Go.Creel Go.RowKit
set_option maxRecDepth 100000 in
theorem Part1_any (bl bs B i : Nat) (v : Value) (l : List ByteArray) (s : ByteArray) (w : World) (h : PartE 9 w bl bs v B l s) (hi : i < l.length) (hl : l.length ≤ 1000) :
    Calls Tryd.prog 138 #[.int .i64 i, .pointer (some ⟨bl, 0, none⟩)] w fun e w' => e = .returned (.bool ((piece l i).toList == [42])) ∧ Below w.heap.size w w' := by
  have c0 := h.lst
  have ho := h.own
  rcases ho.form with ⟨_, e0⟩ | ⟨g, cap, rfl, _, _, hcap, hcm⟩
  · subst e0; exact absurd hi (by simp)
  · have c1 := ho.cell hi
    clear h ho
    unfold maxLen at hcm
    generalize piece l i = p at *
    go_enter Tryd.func138, Tryd.ntmps138
    go_wp2
    go_ret
    exact ⟨rfl, Below.refl _ _⟩
set_option maxRecDepth 100000 in
theorem Part2_any (bl bs B i k : Nat) (v : Value) (l : List ByteArray) (s : ByteArray) (w : World) (h : PartE 9 w bl bs v B l s) (hi : i < l.length) (hl : l.length ≤ 1000) (hk : k < s.size) (hs : s.size ≤ 1000)
    (hg : 1 ≤ (piece l i).size ∧ (piece l i).size ≤ 400 ∧ (byt (piece l i) 0 = 91 → setEnd (piece l i) 0 + 1 = (piece l i).size)) :
    Calls Tryd.prog 139 #[.int .i64 i, .int .i64 k, .pointer (some ⟨bl, 0, none⟩), .pointer (some ⟨bs, 0, none⟩)] w fun e w' => e = .returned (.bool ((tokAt (piece l i) 0).fits (byt s k))) ∧ Below w.heap.size w w' := by
  have c0 := h.lst
  have c2 := h.str
  have ho := h.own
  rcases ho.form with ⟨_, e0⟩ | ⟨g, cap, rfl, _, _, hcap, hcm⟩
  · subst e0; exact absurd hi (by simp)
  · have c1 := ho.cell hi
    clear h ho
    unfold maxLen at hcm
    generalize piece l i = p at *
    have HS := Lib.hid (fun w => GlobSign_any p (byt s k) (byt_lt s k) w hg.1 hg.2.1 hg.2.2)
    rw [← byt_get s k hk] at HS ⊢
    clear hg
    go_enter Tryd.func139, Tryd.ntmps139
    go_wp2
    go_still_tail 7, (by kernel_rfl)
    go_wp2_with fail
    refine (HS.out _).mono ?_
    rintro e w2 ⟨rfl, hb⟩
    have HB2 := Lib.hid ((Below.refl w.heap.size w).drew.trans hb)
    clear hb
    go_wp2
    go_ret
    exact ⟨rfl, HB2.out⟩
set_option maxRecDepth 100000 in
set_option maxHeartbeats 1000000 in
theorem GlobPart_any (p s : ByteArray) (w : World) (hok : okAt p 0 = true) (h1 : 1 ≤ p.size) (hp : p.size ≤ 400) (hs : s.size ≤ 400) :
    Calls Tryd.prog 109 #[.string p, .string s] w fun e w' => e = .returned (.bool (partFits p s)) ∧ Below w.heap.size w w' := by
  have HGOOD := Lib.hid (fun i hi => cuts_good hok (i := i) hi)
  have hcl := cuts_len hok
  have hne : 0 < (cuts p 0).length := by
    have hb : ¬ tokBad p 0 := fun hb => by rw [okAt_bad (by omega) hb] at hok; cases hok
    rw [cuts_more (by omega) hb]; simp
  have HW := Lib.hid (fun (bl bs B : Nat) (v : Value) (w : World) (h : PartE 9 w bl bs v B (cuts p 0) s) =>
    Wild_any (cuts p 0).length s.size 138 139 ⟨bl, 0, none⟩ ⟨bs, 0, none⟩ (fun i => (piece (cuts p 0) i).toList == [42]) (fun i k => (tokAt (piece (cuts p 0) i) 0).fits (byt s k)) w (by omega) (by omega)
      (enter_of Tryd.func138 (by kernel_rfl) (by kernel_rfl)) (enter_of Tryd.func139 (by kernel_rfl) (by kernel_rfl))
      (fun w' i hb hi => Part1_any bl bs B i v _ s w' (h.below hb) hi (by omega))
      (fun w' i k hb hi hk => Part2_any bl bs B i k v _ s w' (h.below hb) hi (by omega) hk (by omega) (by have := HGOOD.out i hi; exact ⟨this.1, by omega, this.2.2⟩)))
  have HF := Lib.hid (show wildM (cuts p 0).length s.size (fun i => (piece (cuts p 0) i).toList == [42]) (fun i k => (tokAt (piece (cuts p 0) i) 0).fits (byt s k)) 0 0 = partFits p s from rfl)
  go_enter Tryd.func109, Tryd.ntmps109
  go_wp2_with fail
  refine (GlobSplit_any p _ hok hp).mono ?_
  rintro e w1 ⟨v, rfl, ho, hb⟩
  have hsz : w.heap.size < w1.heap.size := by have := hb.size; simp at this; omega
  have hcs : w1.cell? ⟨w.heap.size, 0, none⟩ = some (.string s) := (hb.cell (p := ⟨w.heap.size, 0, none⟩) (by simp)).trans (by simp)
  have HE := Lib.hid (show PartE 9 (w1.alloc (.cells #[v] 56)) w1.heap.size w.heap.size v _ (cuts p 0) s from ⟨by simp, ho.below ((Below.refl _ _).alloc (Nat.le_refl _) _), ((Below.refl w1.heap.size w1).alloc (Nat.le_refl _) _).cell (p := ⟨w.heap.size, 0, none⟩) hsz |>.trans hcs⟩)
  have HB1 := Lib.hid (((Below.refl w.heap.size w).alloc (Nat.le_refl _) _).trans (hb.mono (by simp)))
  rcases ho.form with ⟨rfl, e0⟩ | ⟨g, cap, rfl, _, _, hcap, hcm⟩
  · rw [e0] at hne; simp at hne
  · clear ho hb hcs
    have hc2 := HE.out.str
    go_wp2_with fail
    refine (HW.out _ _ _ _ _ HE.out).mono ?_
    rintro e w2 ⟨rfl, hb⟩
    have HB2 := Lib.hid ((HB1.out.alloc HB1.out.size _).trans (hb.mono (by have := HB1.out.size; simp; omega)))
    rw [HF.out]
    clear hb
    go_wp2
    go_ret
    exact ⟨rfl, HB2.out⟩
end Go.Proofs.YtecmcgedeaemgaaDoor
/-
  creelref.table, walked: for any two closures that answer as told.
-/

namespace Go.Creel
set_option linter.unusedVariables false
set_option linter.unusedSimpArgs false
open Go.RowKit
/-- a block of so many truth values -/
def boolArr (n : Nat) (f : Nat → Bool) : Array Value := ((List.range n).map fun j => .bool (f j)).toArray
theorem boolArr_size (n : Nat) (f : Nat → Bool) : (boolArr n f).size = n := by simp [boolArr]
theorem boolArr_at {n : Nat} {f : Nat → Bool} {j : Nat} (h : j < n) : (boolArr n f)[j]? = some (.bool (f j)) := by simp [boolArr, h]
theorem boolArr_made (n : Nat) : madeCells #[.bool false] n = boolArr n noFit := by
  apply Array.ext'
  simp only [madeCells, boolArr, noFit]
  apply List.ext_getElem?
  intro j
  by_cases h : j < n <;> simp [h, Nat.mod_one]
theorem boolArr_set (n : Nat) (f : Nat → Bool) (c : Nat) (b : Bool) : (boolArr n f).setIfInBounds c (.bool b) = boolArr n (tokUpd f c b) := by
  apply Array.ext'
  simp only [boolArr, Array.toList_setIfInBounds]
  apply List.ext_getElem?
  intro j
  rw [List.getElem?_set]
  unfold tokUpd
  by_cases hj : j < n
  · by_cases e : c = j
    · subst e; simp [hj]
    · have e2 : ¬ j = c := fun h => e h.symm
      simp [hj, e, e2]
  · by_cases e : c = j
    · subst e; simp [hj]
    · simp [hj, e]
def BoolRow (t : TypeId) (w : World) (g n : Nat) (f : Nat → Bool) : Prop := w.heap[g]? = some (.cells (boolArr n f) t (0, 0))
section
variable {t : TypeId} {w w' : World} {g n : Nat} {f : Nat → Bool}
theorem BoolRow.cell (h : BoolRow t w g n f) {j : Nat} (hj : j < n) : w.cell? ⟨g, j, none⟩ = some (.bool (f j)) := by rw [cell_of_row w g j _ t (0, 0) h]; exact boolArr_at hj
theorem BoolRow.free (h : BoolRow t w g n f) (j : Nat) : w.frozen? ⟨g, j, none⟩ = false := frozen_of_row w g j _ t h
theorem BoolRow.lt (h : BoolRow t w g n f) : g < w.heap.size := (Array.getElem?_eq_some_iff.1 h).1
theorem BoolRow.below (h : BoolRow t w g n f) (hb : Below w.heap.size w w') : BoolRow t w' g n f := (hb.block g h.lt).trans h
theorem BoolRow.store (h : BoolRow t w g n f) (c : Nat) (b : Bool) : BoolRow t (w.setCell ⟨g, c, none⟩ (.bool b)) g n (tokUpd f c b) := by
  unfold BoolRow
  rw [heap_setCell_same w g c _ t _ h, boolArr_set]
theorem BoolRow.other (h : BoolRow t w g n f) {k : Nat} (hk : g ≠ k) (c : Nat) (v : Value) : BoolRow t (w.setCell ⟨k, c, none⟩ v) g n f :=
  (heap_setCell_other w ⟨k, c, none⟩ g v hk).trans h
theorem BoolRow.made (w : World) (n : Nat) : BoolRow t (w.alloc (.cells (boolArr n noFit) t)) w.heap.size n noFit := by
  unfold BoolRow
  exact heap_alloc_new w _
theorem BoolRow.alloc (h : BoolRow t w g n f) (o : Obj) : BoolRow t (w.alloc o) g n f := h.below ((Below.refl _ _).alloc (Nat.le_refl _) o)
end
end Go.Creel
namespace Go.Proofs.YtecmcgedeaemgaaDoor
set_option linter.unusedVariables false
set_option linter.unusedSimpArgs false
open Go.Creel Go.RowKit
theorem info_bool : (Tryd.prog.info? 4).map (fun i => (i.zero, i.size, i.bytes)) = some (some (.bool false), 1, 1) := by kernel_rfl
theorem make_bools (w : World) (n : Nat) (x : Int) (hx : x = (n : Int)) (hn : n ≤ 1000000) : (Instr.makeSlice 124 (.int .i64 x) (.int .i64 x)).run Tryd.prog w = .ok (.slice (some ⟨w.heap.size, 0, none⟩) n n) (w.alloc (.cells (boolArr n noFit) 4)) := by
  subst hx
  obtain ⟨i, hi, hz, h1, hb⟩ := info_parts info_bool
  have hr := run_make (P := Tryd.prog) w 124 4 i (.bool false) Tryd.underlying124 hi hz .i64 .i64 n n (by omega) (Int.le_refl _) (by rw [hb]; omega) (by omega)
  simp only [Int.toNat_natCast, h1, Nat.mul_one, Value.cells] at hr
  rw [boolArr_made] at hr
  exact hr
set_option maxRecDepth 100000 in
set_option maxHeartbeats 4000000 in
theorem Table_any (n m : Nat) (Fs Ff : FuncId) (a1 a2 : Addr) (star : Nat → Bool) (fits : Nat → Nat → Bool) (w : World) (hn : n ≤ 1000) (hm : m ≤ 1000)
    (hcs : ∀ (args : Array Value) (w : World), (callFunc Fs args).run Tryd.prog w = .ok (.enter Fs args) w) (hcf : ∀ (args : Array Value) (w : World), (callFunc Ff args).run Tryd.prog w = .ok (.enter Ff args) w)
    (hS : ∀ w' (i : Nat), Below w.heap.size w w' → i < n → Calls Tryd.prog Fs #[.int .i64 i, .pointer (some a1)] w' fun e w2 => e = .returned (.bool (star i)) ∧ Below w'.heap.size w' w2)
    (hF : ∀ w' (i k : Nat), Below w.heap.size w w' → i < n → k < m → Calls Tryd.prog Ff #[.int .i64 i, .int .i64 k, .pointer (some a1), .pointer (some a2)] w' fun e w2 => e = .returned (.bool (fits i k)) ∧ Below w'.heap.size w' w2) :
    Calls Tryd.prog 64 #[.int .i64 n, .int .i64 m, .func (.func Fs) #[] #[.pointer (some a1)], .func (.func Ff) #[] #[.pointer (some a1), .pointer (some a2)]] w fun e w' => e = .returned (.bool (wildP star fits n m)) ∧ Below w.heap.size w w' := by
  have HS := Lib.hid hS
  have HF := Lib.hid hF
  have hmk := fun w => make_bools w (m + 1) ((m : Int) + 1) (by omega) (by omega)
  clear hS hF
  have H0 := Lib.hid (BoolRow.made (t := 4) w (m + 1))
  have c0 := H0.out.cell (j := 0) (by omega)
  have z0 := H0.out.free 0
  have H1 := Lib.hid (show BoolRow 4 (w.alloc (.cells ((boolArr (m + 1) noFit).setIfInBounds 0 (.bool true)) 4)) w.heap.size (m + 1) (tokUpd noFit 0 true) by rw [boolArr_set]; exact heap_alloc_new w _)
  have HP0 := Lib.hid (show ∀ j, j < m + 1 → tokUpd noFit 0 true j = wildP star fits 0 j by
    intro j _
    cases j with
    | zero => rw [tokUpd_same, wildP]
    | succ j => rw [tokUpd_other _ _ (by omega), wildP]; rfl)
  have HBW := Lib.hid ((Below.refl w.heap.size w).alloc (Nat.le_refl _) (.cells ((boolArr (m + 1) noFit).setIfInBounds 0 (.bool true)) 4))
  go_enter Tryd.func64, Tryd.ntmps64
  go_wp2
  go_loopw [9, 10] (fun v9 v10 wr => ∃ (i g : Nat) (rf : Nat → Bool), i ≤ n ∧ v10 = .int .i64 i ∧ v9 = .slice (some ⟨g, 0, none⟩) (m + 1) (m + 1) ∧ Hid (BoolRow 4 wr g (m + 1) rf) ∧ Hid (∀ j, j < m + 1 → rf j = wildP star fits i j) ∧ Hid (Below w.heap.size w wr)) (fun _ v10 _ => n - (intOf v10).toNat)
  case atStart => exact ⟨0, _, _, by omega, rfl, rfl, H1, HP0, HBW⟩
  case round =>
    obtain ⟨i, g, rf, hi, rfl, rfl, HG, HR, HB⟩ := hrel
    clear c0 z0 H1 HP0 HBW H0
    by_cases hin : i < n
    · have HG1 := Lib.hid (HG.out.alloc (.cells (boolArr (m + 1) noFit) 4))
      have HN1 := Lib.hid (BoolRow.made (t := 4) wr (m + 1))
      have HB1 := Lib.hid (HB.out.alloc HB.out.size (.cells (boolArr (m + 1) noFit) 4))
      have HGL := Lib.hid HG.out.lt
      have HHB := Lib.hid HB.out.size
      go_upto_region 7 with fail
      generalize wr.alloc (.cells (boolArr (m + 1) noFit) 4) = wv at *
      generalize wr.heap.size = h at *
      have hgh : g ≠ h := by have := HGL.out; omega
      go_cut [] from 26 to 35 (fun wc => Hid (BoolRow 4 wc g (m + 1) rf) ∧ Hid (BoolRow 4 wc h (m + 1) (tokUpd noFit 0 (wildP star fits (i + 1) 0))) ∧ Hid (Below w.heap.size w wc))
      case first =>
        have cg := HG1.out.cell (j := 0) (by omega)
        have HW0 := Lib.hid (show wildP star fits (i + 1) 0 = (rf 0 && star i) by rw [wildP, HR.out 0 (by omega)])
        have HC1 := Lib.hid (HS.out wv i HB1.out hin)
        have ch := HN1.out.cell (j := 0) (by omega)
        have zh := HN1.out.free 0
        cases hr0 : rf 0 with
        | true =>
          rw [hr0] at HW0 cg
          clear hr0 ch zh
          go_wp2_with fail
          refine HC1.out.mono ?_
          rintro e w3 ⟨rfl, hb⟩
          have HN3 := Lib.hid (HN1.out.below hb)
          have HG3 := Lib.hid (HG1.out.below hb)
          have HB3 := Lib.hid (HB1.out.trans (hb.mono HB1.out.size))
          have ch := HN3.out.cell (j := 0) (by omega)
          have zh := HN3.out.free 0
          clear hb
          go_wp2
          go_meet
          exact ⟨Lib.hid (HG3.out.other hgh _ _), Lib.hid (by rw [HW0.out]; exact HN3.out.store 0 _), Lib.hid (HB3.out.setCell HHB.out _)⟩
        | false =>
          rw [hr0] at HW0 cg
          clear hr0
          go_wp2
          go_meet
          exact ⟨Lib.hid (HG1.out.other hgh _ _), Lib.hid (by rw [HW0.out]; exact HN1.out.store 0 _), Lib.hid (HB1.out.setCell HHB.out _)⟩
      case rest =>
        obtain ⟨HG2, HN2, HB2⟩ := hcut
        have HP2 := Lib.hid (show ∀ j, j ≤ 0 → tokUpd noFit 0 (wildP star fits (i + 1) 0) j = wildP star fits (i + 1) j by
          intro j hj
          obtain rfl : j = 0 := by omega
          rw [tokUpd_same])
        go_wp2
        go_loopw [12] (fun v12 w5 => ∃ (k : Nat) (nf : Nat → Bool), k ≤ m ∧ v12 = .int .i64 k ∧ Hid (BoolRow 4 w5 g (m + 1) rf) ∧ Hid (BoolRow 4 w5 h (m + 1) nf) ∧ Hid (∀ j, j ≤ k → nf j = wildP star fits (i + 1) j) ∧ Hid (Below w.heap.size w w5)) (fun v12 _ => m - (intOf v12).toNat)
        case atStart => exact ⟨0, _, by omega, rfl, HG2, HN2, HP2, HB2⟩
        case round =>
          obtain ⟨k, nf, hk, rfl, HG5, HN5, HP5, HB5⟩ := hrel
          clear HG2 HN2 HP2 HB2 HG1 HN1 HB1 HG HB
          by_cases hkm : k < m
          · have HC5 := Lib.hid (HS.out _ i HB5.out hin)
            have HPN := Lib.hid (fun (b : Bool) (hb : wildP star fits (i + 1) (k + 1) = b) => show ∀ j, j ≤ k + 1 → tokUpd nf (k + 1) b j = wildP star fits (i + 1) j from fun j hj => by
              by_cases e : j = k + 1
              · rw [e, tokUpd_same, hb]
              · rw [tokUpd_other _ _ e]; exact HP5.out j (by omega))
            cases hst : star i with
            | true =>
              have HW := Lib.hid (show wildP star fits (i + 1) (k + 1) = (rf (k + 1) || nf k) by rw [wildP, if_pos hst, HR.out (k + 1) (by omega), HP5.out k (Nat.le_refl _)])
              rw [hst] at HC5
              clear hst
              go_wp2_with fail
              refine HC5.out.mono ?_
              rintro e w6 ⟨rfl, hb⟩
              have HN6 := Lib.hid (HN5.out.below hb)
              have HG6 := Lib.hid (HG5.out.below hb)
              have HB6 := Lib.hid (HB5.out.trans (hb.mono HB5.out.size))
              have ch := HN6.out.cell (j := k + 1) (by omega)
              have ck := HN6.out.cell (j := k) (by omega)
              have zh := HN6.out.free (k + 1)
              have cg := HG6.out.cell (j := k + 1) (by omega)
              clear hb
              cases hr : rf (k + 1) with
              | true =>
                rw [hr] at HW cg
                clear hr
                go_wp2
                go_roundw
                case rel => exact ⟨k + 1, _, by omega, by go_num, Lib.hid (HG6.out.other hgh _ _), Lib.hid (HN6.out.store (k + 1) _), Lib.hid (HPN.out _ HW.out), Lib.hid (HB6.out.setCell HHB.out _)⟩
                case measure => simp [intOf]; omega
              | false =>
                rw [hr] at HW cg
                clear hr
                go_wp2
                go_roundw
                case rel => exact ⟨k + 1, _, by omega, by go_num, Lib.hid (HG6.out.other hgh _ _), Lib.hid (HN6.out.store (k + 1) _), Lib.hid (HPN.out _ HW.out), Lib.hid (HB6.out.setCell HHB.out _)⟩
                case measure => simp [intOf]; omega
            | false =>
              have HW := Lib.hid (show wildP star fits (i + 1) (k + 1) = (rf k && fits i k) by rw [wildP, if_neg (by rw [hst]; simp), HR.out k (by omega)])
              rw [hst] at HC5
              clear hst
              go_wp2_with fail
              refine HC5.out.mono ?_
              rintro e w6 ⟨rfl, hb⟩
              have HN6 := Lib.hid (HN5.out.below hb)
              have HG6 := Lib.hid (HG5.out.below hb)
              have HB6 := Lib.hid (HB5.out.trans (hb.mono HB5.out.size))
              have cg := HG6.out.cell (j := k) (by omega)
              clear hb
              cases hr : rf k with
              | true =>
                rw [hr] at HW cg
                clear hr
                have HC6 := Lib.hid (HF.out _ i k HB6.out hin hkm)
                go_wp2_with fail
                refine HC6.out.mono ?_
                rintro e w7 ⟨rfl, hb⟩
                have HN7 := Lib.hid (HN6.out.below hb)
                have HG7 := Lib.hid (HG6.out.below hb)
                have HB7 := Lib.hid (HB6.out.trans (hb.mono HB6.out.size))
                have ch := HN7.out.cell (j := k + 1) (by omega)
                have zh := HN7.out.free (k + 1)
                clear hb
                go_wp2
                go_roundw
                case rel => exact ⟨k + 1, _, by omega, by go_num, Lib.hid (HG7.out.other hgh _ _), Lib.hid (HN7.out.store (k + 1) _), Lib.hid (HPN.out _ HW.out), Lib.hid (HB7.out.setCell HHB.out _)⟩
                case measure => simp [intOf]; omega
              | false =>
                rw [hr] at HW cg
                clear hr
                have ch := HN6.out.cell (j := k + 1) (by omega)
                have zh := HN6.out.free (k + 1)
                go_wp2
                go_roundw
                case rel => exact ⟨k + 1, _, by omega, by go_num, Lib.hid (HG6.out.other hgh _ _), Lib.hid (HN6.out.store (k + 1) _), Lib.hid (HPN.out _ HW.out), Lib.hid (HB6.out.setCell HHB.out _)⟩
                case measure => simp [intOf]; omega
          · obtain rfl : k = m := by omega
            have HPE := Lib.hid (show ∀ j, j < k + 1 → nf j = wildP star fits (i + 1) j from fun j hj => HP5.out j (by omega))
            go_wp2
            go_roundw
            case rel => exact ⟨i + 1, h, nf, by omega, by go_num, rfl, HN5, HPE, HB5⟩
            case measure => simp [intOf]; omega
    · obtain rfl : i = n := by omega
      have cg := HG.out.cell (j := m) (by omega)
      have HE := Lib.hid (HR.out m (by omega))
      go_wp2
      go_ret
      exact ⟨ret_b HE.out.symm, HB.out⟩
end Go.Proofs.YtecmcgedeaemgaaDoor
/-
  creelref.PartFits, walked.
-/
namespace Go.Creel
set_option linter.unusedVariables false
set_option linter.unusedSimpArgs false
open Go.RowKit
theorem Tok.cells_len (x : Tok) : x.cells.length = 257 := by simp [Tok.cells, tokCells]
theorem tok_flat : ∀ (l : List Tok) (k j : Nat), k < l.length → j < 257 → (l.flatMap Tok.cells)[k * 257 + j]? = (l.getD k noTok).cells[j]?
  | [], _, _, h, _ => absurd h (by simp)
  | x :: r, 0, j, _, hj => by
    rw [List.flatMap_cons, Nat.zero_mul, Nat.zero_add, List.getElem?_append_left (by rw [Tok.cells_len]; omega)]
    rfl
  | x :: r, k + 1, j, hk, hj => by
    rw [List.flatMap_cons, List.getElem?_append_right (by rw [Tok.cells_len]; omega), Tok.cells_len]
    have e : (k + 1) * 257 + j - 257 = k * 257 + j := by omega
    rw [e, tok_flat r k j (by simpa using hk) hj]
    rfl
theorem OwnToks.form {t : TypeId} {w : World} {B : Nat} {v : Value} {l : List Tok} (h : OwnToks t w B v l) : (v = .slice none 0 0 ∧ l = []) ∨ ∃ g cap, v = .slice (some ⟨g, 0, none⟩) l.length cap ∧ B ≤ g ∧ g < w.heap.size ∧ l.length ≤ cap ∧ cap ≤ maxLen := by
  rcases h.2 with ⟨h1, h2⟩ | ⟨g', cap', cur, h', hB, hg, h5, h6, h7, h8⟩
  · exact .inl ⟨h1, List.eq_nil_of_length_eq_zero h2⟩
  · exact .inr ⟨g', cap', h', hB, (Array.getElem?_eq_some_iff.1 hg).1, by omega, by omega⟩
theorem OwnToks.star {t : TypeId} {w : World} {B g cap : Nat} {l : List Tok} (h : OwnToks t w B (.slice (some ⟨g, 0, none⟩) l.length cap) l) {k : Nat} (hk : k < l.length) : w.cell? ⟨g, k * 257, none⟩ = some (.bool (l.getD k noTok).star) :=
by
  have hj : k * 257 < l.length * 257 := by omega
  have e := tok_flat l k 0 hk (by omega)
  rw [Nat.add_zero] at e
  rw [World.ownsRow.cellAt h _ hj, e]
  rfl
theorem OwnToks.fit {t : TypeId} {w : World} {B g cap : Nat} {l : List Tok} (h : OwnToks t w B (.slice (some ⟨g, 0, none⟩) l.length cap) l) {k c : Nat} (hk : k < l.length) (hc : c < 256) : w.cell? ⟨g, k * 257 + 1 + c, none⟩ = some (.bool ((l.getD k noTok).fits c)) := by
  have hj : k * 257 + 1 + c < l.length * 257 := by omega
  rw [World.ownsRow.cellAt h _ hj, Nat.add_assoc, tok_flat l k (1 + c) hk (by omega)]
  simp only [Tok.cells, tokCells]
  rw [Nat.add_comm 1 c, List.getElem?_cons_succ, List.getElem?_map, List.getElem?_range hc]
  rfl
/-- what the closures read: the signs of the pattern, and the text -/
structure TokE (t : TypeId) (w : World) (bl bs : Nat) (v : Value) (B : Nat) (l : List Tok) (s : ByteArray) : Prop where
  lst : w.cell? ⟨bl, 0, none⟩ = some v
  own : OwnToks t w B v l
  str : w.cell? ⟨bs, 0, none⟩ = some (.string s)
theorem TokE.below {t : TypeId} {w w' : World} {bl bs B : Nat} {v : Value} {l : List Tok} {s : ByteArray} (h : TokE t w bl bs v B l s) (hb : Below w.heap.size w w') : TokE t w' bl bs v B l s :=
  ⟨(hb.cell (p := ⟨bl, 0, none⟩) (World.block_lt_of_cell? w _ h.lst)).trans h.lst, h.own.below hb, (hb.cell (p := ⟨bs, 0, none⟩) (World.block_lt_of_cell? w _ h.str)).trans h.str⟩
end Go.Creel
namespace Go.Proofs.YtecmcgedeaemgaaDoor
set_option linter.unusedVariables false
set_option linter.unusedSimpArgs false
open Go.Creel Go.RowKit
set_option maxRecDepth 100000 in
theorem PartR1_any (bl bs B i : Nat) (v : Value) (l : List Tok) (s : ByteArray) (w : World) (h : TokE 127 w bl bs v B l s) (hi : i < l.length) (hl : l.length ≤ 1000) :
    Calls Tryd.prog 111 #[.int .i64 i, .pointer (some ⟨bl, 0, none⟩)] w fun e w' => e = .returned (.bool (l.getD i noTok).star) ∧ Below w.heap.size w w' := by
  have c0 := h.lst
  have ho := h.own
  rcases ho.form with ⟨_, e0⟩ | ⟨g, cap, rfl, _, _, hcap, hcm⟩
  · subst e0; exact absurd hi (by simp)
  · have c1 := ho.star hi
    clear h ho
    unfold maxLen at hcm
    generalize l.getD i noTok = p at *
    go_enter Tryd.func111, Tryd.ntmps111
    go_wp2
    go_ret
    exact ⟨rfl, Below.refl _ _⟩
set_option maxRecDepth 100000 in
theorem PartR2_any (bl bs B i k : Nat) (v : Value) (l : List Tok) (s : ByteArray) (w : World) (h : TokE 127 w bl bs v B l s) (hi : i < l.length) (hl : l.length ≤ 1000) (hk : k < s.size) (hs : s.size ≤ 1000) :
    Calls Tryd.prog 112 #[.int .i64 i, .int .i64 k, .pointer (some ⟨bl, 0, none⟩), .pointer (some ⟨bs, 0, none⟩)] w fun e w' => e = .returned (.bool ((l.getD i noTok).fits (byt s k))) ∧ Below w.heap.size w w' := by
  have c0 := h.lst
  have c2 := h.str
  have ho := h.own
  rcases ho.form with ⟨_, e0⟩ | ⟨g, cap, rfl, _, _, hcap, hcm⟩
  · subst e0; exact absurd hi (by simp)
  · have c1 := ho.fit hi (byt_lt s k)
    clear h ho
    unfold maxLen at hcm
    have hbl := byt_lt s k
    rw [← byt_get s k hk] at c1 hbl ⊢
    generalize l.getD i noTok = p at *
    have hil : (i : Int) < (l.length : Int) := by omega
    have hbi : ((s[k].toNat : Nat) : Int) < 256 := by omega
    go_enter Tryd.func112, Tryd.ntmps112
    go_wp2
    go_quiet (fail)
    go_wp2
    go_ret
    exact ⟨rfl, below_draws _ _ _⟩
set_option maxRecDepth 100000 in
set_option maxHeartbeats 1000000 in
theorem PartFits_any (p s : ByteArray) (w : World) (hok : okAt p 0 = true) (h1 : 1 ≤ p.size) (hp : p.size ≤ 400) (hs : s.size ≤ 400) :
    Calls Tryd.prog 67 #[.string p, .string s] w fun e w' => e = .returned (.bool (partFits p s)) ∧ Below w.heap.size w w' := by
  have hcl := cuts_len hok
  have hne : 0 < (cuts p 0).length := by
    have hb : ¬ tokBad p 0 := fun hb => by rw [okAt_bad (by omega) hb] at hok; cases hok
    rw [cuts_more (by omega) hb]; simp
  have hsome : ∃ l, toks p 0 = some l := by
    unfold okAt at hok
    cases h : toks p 0 with
    | none => rw [h] at hok; cases hok
    | some l => exact ⟨l, rfl⟩
  obtain ⟨l, hl⟩ := hsome
  have hll := (toks_cuts _ 0 l rfl hl).1
  have HF := Lib.hid (partFits_toks p s l hl)
  have HT := Lib.hid (fun w => tokens_any p w (by omega))
  rw [hl] at HT
  have hlp : l.length ≤ 400 := by omega
  have hl0 : 0 < l.length := by omega
  clear hcl hne hok hl hll
  have HW := Lib.hid (fun (bl bs B : Nat) (v : Value) (w : World) (h : TokE 127 w bl bs v B l s) =>
    Table_any l.length s.size 111 112 ⟨bl, 0, none⟩ ⟨bs, 0, none⟩ (fun i => (l.getD i noTok).star) (fun i k => (l.getD i noTok).fits (byt s k)) w (by omega) (by omega)
      (enter_of Tryd.func111 (by kernel_rfl) (by kernel_rfl)) (enter_of Tryd.func112 (by kernel_rfl) (by kernel_rfl))
      (fun w' i hb hi => PartR1_any bl bs B i v _ s w' (h.below hb) hi (by omega))
      (fun w' i k hb hi hk => PartR2_any bl bs B i k v _ s w' (h.below hb) hi (by omega) hk (by omega)))
  go_enter Tryd.func67, Tryd.ntmps67
  go_wp2_with fail
  refine (HT.out _).mono ?_
  rintro e w1 ⟨v, rfl, ho0, hb⟩
  have ho : OwnToks 127 w1 (w.alloc (Obj.cells #[Value.string s] 9)).heap.size v l := ho0
  clear ho0
  have hsz : w.heap.size < w1.heap.size := by have := hb.size; simp at this; omega
  have hcs : w1.cell? ⟨w.heap.size, 0, none⟩ = some (.string s) := (hb.cell (p := ⟨w.heap.size, 0, none⟩) (by simp)).trans (by simp)
  have HE := Lib.hid (show TokE 127 (w1.alloc (.cells #[v] 121)) w1.heap.size w.heap.size v _ l s from ⟨by simp, ho.below ((Below.refl _ _).alloc (Nat.le_refl _) _), ((Below.refl w1.heap.size w1).alloc (Nat.le_refl _) _).cell (p := ⟨w.heap.size, 0, none⟩) hsz |>.trans hcs⟩)
  have HB1 := Lib.hid (((Below.refl w.heap.size w).alloc (Nat.le_refl _) _).trans (hb.mono (by simp)))
  rcases ho.form with ⟨rfl, e0⟩ | ⟨g, cap, rfl, _, _, hcap, hcm⟩
  · have e0' : l = [] := e0
    rw [e0'] at hl0; simp at hl0
  · clear ho hb hcs
    have hc2 := HE.out.str
    go_wp2_with fail
    refine (HW.out _ _ _ _ _ HE.out).mono ?_
    rintro e w2 ⟨rfl, hb⟩
    have HB2 := Lib.hid ((HB1.out.alloc HB1.out.size _).trans (hb.mono (by have := HB1.out.size; simp; omega)))
    rw [← HF.out]
    clear hb
    go_wp2
    go_ret
    exact ⟨rfl, HB2.out⟩
end Go.Proofs.YtecmcgedeaemgaaDoor
/-
  glob.Fits and its reference, walked.
-/
namespace Go.Creel
set_option linter.unusedVariables false
set_option linter.unusedSimpArgs false
open Go.RowKit
/-- what the closures read: the parts of the pattern, and those of the path -/
structure PathE (t : TypeId) (w : World) (bp bs : Nat) (vp vs : Value) (B C : Nat) (P S : List ByteArray) : Prop where
  pat : w.cell? ⟨bp, 0, none⟩ = some vp
  ownp : OwnSs t w B vp P
  txt : w.cell? ⟨bs, 0, none⟩ = some vs
  owns : OwnSs t w C vs S
theorem PathE.below {t : TypeId} {w w' : World} {bp bs B C : Nat} {vp vs : Value} {P S : List ByteArray} (h : PathE t w bp bs vp vs B C P S) (hb : Below w.heap.size w w') : PathE t w' bp bs vp vs B C P S :=
  ⟨(hb.cell (p := ⟨bp, 0, none⟩) (World.block_lt_of_cell? w _ h.pat)).trans h.pat, h.ownp.below hb, (hb.cell (p := ⟨bs, 0, none⟩) (World.block_lt_of_cell? w _ h.txt)).trans h.txt, h.owns.below hb⟩
def starS (P : List ByteArray) (i : Nat) : Bool := (piece P i).toList == [42, 42]
def fitsS (P S : List ByteArray) (i k : Nat) : Bool := partFits (piece P i) (piece S k)
/-- parts that are right -/
structure PartsOk (P S : List ByteArray) : Prop where
  np : P.length ≤ 1000
  ns : S.length ≤ 1000
  p0 : 0 < P.length
  s0 : 0 < S.length
  ok : ∀ i, i < P.length → okAt (piece P i) 0 = true ∧ 1 ≤ (piece P i).size ∧ (piece P i).size ≤ 400
  size : ∀ k, k < S.length → (piece S k).size ≤ 400
theorem PartsOk.mk' {p s : ByteArray} (h : globFault p = 0) (h2 : pathFault s = 0) : PartsOk (partsS 47 p) (partsS 47 s) := by
  obtain ⟨a1, a2, a3⟩ := globFault_inv h
  obtain ⟨b1, b2⟩ := pathFault_inv h2
  have l1 := partsS_len 47 p
  have l2 := partsS_len 47 s
  exact ⟨by omega, by omega, partsS_pos _ _, partsS_pos _ _, fun i hi => ⟨(a3 i hi).1, (a3 i hi).2, piece_le (partsS_size a2) i⟩, fun k hk => piece_le (partsS_size b2) k⟩
theorem globFits_eq (p s : ByteArray) : wildM (partsS 47 p).length (partsS 47 s).length (starS (partsS 47 p)) (fitsS (partsS 47 p) (partsS 47 s)) 0 0 = globFits p s := rfl
theorem globFits_eqP (p s : ByteArray) : wildP (starS (partsS 47 p)) (fitsS (partsS 47 p) (partsS 47 s)) (partsS 47 p).length (partsS 47 s).length = globFits p s := (globFits_table p s).symm
theorem ret_bi {a : Bool} {b : Int} {p : Bool × Int} (h : p = (a, b)) : Ending.returned (.tuple #[.bool a, .int .i64 b]) = .returned (.tuple #[.bool p.1, .int .i64 p.2]) := by rw [h]
theorem pathParts_pos {s : ByteArray} (h : 1 ≤ s.size) : pathParts s = partsS 47 s := by unfold pathParts; rw [if_neg (by omega)]
end Go.Creel
namespace Go.Proofs.YtecmcgedeaemgaaDoor
set_option linter.unusedVariables false
set_option linter.unusedSimpArgs false
open Go.Creel Go.RowKit
section
variable (bp bs B C i k : Nat) (vp vs : Value) (P S : List ByteArray) (w : World)
set_option maxRecDepth 100000 in
theorem Parts1_any (h : PathE 9 w bp bs vp vs B C P S) (hi : i < P.length) (hl : P.length ≤ 1000) :
    Calls Tryd.prog 107 #[.int .i64 i, .pointer (some ⟨bp, 0, none⟩)] w fun e w' => e = .returned (.bool (starS P i)) ∧ Below w.heap.size w w' := by
  have c0 := h.pat
  have ho := h.ownp
  unfold starS
  rcases ho.form with ⟨_, e0⟩ | ⟨g, cap, rfl, _, _, hcap, hcm⟩
  · subst e0; exact absurd hi (by simp)
  · have c1 := ho.cell hi
    clear h ho
    unfold maxLen at hcm
    generalize piece P i = p at *
    go_enter Tryd.func107, Tryd.ntmps107
    go_wp2
    go_ret
    exact ⟨rfl, Below.refl _ _⟩
set_option maxRecDepth 100000 in
theorem PartsR1_any (h : PathE 9 w bp bs vp vs B C P S) (hi : i < P.length) (hl : P.length ≤ 1000) :
    Calls Tryd.prog 65 #[.int .i64 i, .pointer (some ⟨bp, 0, none⟩)] w fun e w' => e = .returned (.bool (starS P i)) ∧ Below w.heap.size w w' := by
  have c0 := h.pat
  have ho := h.ownp
  unfold starS
  rcases ho.form with ⟨_, e0⟩ | ⟨g, cap, rfl, _, _, hcap, hcm⟩
  · subst e0; exact absurd hi (by simp)
  · have c1 := ho.cell hi
    clear h ho
    unfold maxLen at hcm
    generalize piece P i = p at *
    go_enter Tryd.func65, Tryd.ntmps65
    go_wp2
    go_ret
    exact ⟨rfl, Below.refl _ _⟩
set_option maxRecDepth 100000 in
theorem Parts2_any (hk : PartsOk P S) (h : PathE 9 w bp bs vp vs B C P S) (hi : i < P.length) (hj : k < S.length) :
    Calls Tryd.prog 108 #[.int .i64 i, .int .i64 k, .pointer (some ⟨bp, 0, none⟩), .pointer (some ⟨bs, 0, none⟩)] w fun e w' => e = .returned (.bool (fitsS P S i k)) ∧ Below w.heap.size w w' := by
  have c0 := h.pat
  have c2 := h.txt
  have ho := h.ownp
  have hq := h.owns
  unfold fitsS
  have HC := Lib.hid (fun w => GlobPart_any (piece P i) (piece S k) w (hk.ok i hi).1 (hk.ok i hi).2.1 (hk.ok i hi).2.2 (hk.size k hj))
  have n1 := hk.np
  have n2 := hk.ns
  rcases ho.form with ⟨_, e0⟩ | ⟨g, cap, rfl, _, _, hcap, hcm⟩
  · subst e0; exact absurd hi (by simp)
  · rcases hq.form with ⟨_, e0⟩ | ⟨g', cap', rfl, _, _, hcap', hcm'⟩
    · subst e0; exact absurd hj (by simp)
    · have c1 := ho.cell hi
      have c3 := hq.cell hj
      clear h ho hq hk
      unfold maxLen at hcm hcm'
      generalize piece P i = p at *
      generalize piece S k = s at *
      go_enter Tryd.func108, Tryd.ntmps108
      go_wp2
      go_still_tail 8, (by kernel_rfl)
      go_wp2_with fail
      refine (HC.out _).mono ?_
      rintro e w2 ⟨rfl, hb⟩
      have HB2 := Lib.hid ((Below.refl w.heap.size w).drew.trans hb)
      clear hb
      go_wp2
      go_ret
      exact ⟨rfl, HB2.out⟩
set_option maxRecDepth 100000 in
theorem PartsR2_any (hk : PartsOk P S) (h : PathE 9 w bp bs vp vs B C P S) (hi : i < P.length) (hj : k < S.length) :
    Calls Tryd.prog 66 #[.int .i64 i, .int .i64 k, .pointer (some ⟨bp, 0, none⟩), .pointer (some ⟨bs, 0, none⟩)] w fun e w' => e = .returned (.bool (fitsS P S i k)) ∧ Below w.heap.size w w' := by
  have c0 := h.pat
  have c2 := h.txt
  have ho := h.ownp
  have hq := h.owns
  unfold fitsS
  have HC := Lib.hid (fun w => PartFits_any (piece P i) (piece S k) w (hk.ok i hi).1 (hk.ok i hi).2.1 (hk.ok i hi).2.2 (hk.size k hj))
  have n1 := hk.np
  have n2 := hk.ns
  rcases ho.form with ⟨_, e0⟩ | ⟨g, cap, rfl, _, _, hcap, hcm⟩
  · subst e0; exact absurd hi (by simp)
  · rcases hq.form with ⟨_, e0⟩ | ⟨g', cap', rfl, _, _, hcap', hcm'⟩
    · subst e0; exact absurd hj (by simp)
    · have c1 := ho.cell hi
      have c3 := hq.cell hj
      clear h ho hq hk
      unfold maxLen at hcm hcm'
      generalize piece P i = p at *
      generalize piece S k = s at *
      go_enter Tryd.func66, Tryd.ntmps66
      go_wp2
      go_still_tail 8, (by kernel_rfl)
      go_wp2_with fail
      refine (HC.out _).mono ?_
      rintro e w2 ⟨rfl, hb⟩
      have HB2 := Lib.hid ((Below.refl w.heap.size w).drew.trans hb)
      clear hb
      go_wp2
      go_ret
      exact ⟨rfl, HB2.out⟩
end
set_option maxRecDepth 100000 in
theorem GlobParts_any (B C : Nat) (vp vs : Value) (P S : List ByteArray) (w : World) (hk : PartsOk P S) (hp : OwnSs 9 w B vp P) (hs : OwnSs 9 w C vs S) :
    Calls Tryd.prog 59 #[vp, vs] w fun e w' => e = .returned (.bool (wildM P.length S.length (starS P) (fitsS P S) 0 0)) ∧ Below w.heap.size w w' := by
  have n1 := hk.np
  have n2 := hk.ns
  have HW := Lib.hid (fun (bp bs : Nat) (w : World) (h : PathE 9 w bp bs vp vs B C P S) =>
    Wild_any P.length S.length 107 108 ⟨bp, 0, none⟩ ⟨bs, 0, none⟩ (starS P) (fitsS P S) w n1 n2
      (enter_of Tryd.func107 (by kernel_rfl) (by kernel_rfl)) (enter_of Tryd.func108 (by kernel_rfl) (by kernel_rfl))
      (fun w' i hb hi => Parts1_any bp bs B C i vp vs P S w' (h.below hb) hi n1)
      (fun w' i k hb hi hj => Parts2_any bp bs B C i k vp vs P S w' hk (h.below hb) hi hj))
  have HB2 := Lib.hid (((Below.refl w.heap.size w).alloc (Nat.le_refl _) (.cells #[vp] 56)).alloc (by simp) (.cells #[vs] 56))
  have HE := Lib.hid (show PathE 9 ((w.alloc (.cells #[vp] 56)).alloc (.cells #[vs] 56)) w.heap.size (w.heap.size + 1) vp vs B C P S from ⟨by simp [World.cell?_alloc_new], hp.below HB2.out, by simp [World.cell?_alloc_new], hs.below HB2.out⟩)
  rcases hp.form with ⟨_, e0⟩ | ⟨g, cap, rfl, _, _, hcap, hcm⟩
  · have := hk.p0; rw [e0] at this; simp at this
  · rcases hs.form with ⟨_, e0⟩ | ⟨g', cap', rfl, _, _, hcap', hcm'⟩
    · have := hk.s0; rw [e0] at this; simp at this
    · clear hk hp hs
      go_enter Tryd.func59, Tryd.ntmps59
      go_wp2_with fail
      refine (HW.out _ _ _ HE.out).mono ?_
      rintro e w2 ⟨rfl, hb⟩
      have HB3 := Lib.hid (HB2.out.trans (hb.mono (by simp; omega)))
      clear hb
      go_wp2
      go_ret
      exact ⟨rfl, HB3.out⟩
set_option maxRecDepth 100000 in
set_option maxHeartbeats 1000000 in
theorem GlobFitsL_any (p s : ByteArray) (w : World) (hM : MaxOk w) (hp : p.size ≤ maxLen) (hs : s.size ≤ maxLen) :
    Calls Tryd.prog 19 #[.string p, .string s] w fun e w' => e = .returned (.tuple #[.bool (globFitsE p s).1, .int .i64 (globFitsE p s).2]) ∧ Below w.heap.size w w' := by
  have HM := Lib.hid hM
  have HC := Lib.hid (fun w hM => GlobCheck_any p w hM hp)
  have HC2 := Lib.hid (fun w hM => PathCheck_any s w hM hs)
  clear hM
  by_cases h0 : globFault p = 0
  · rw [h0] at HC
    by_cases h1 : pathFault s = 0
    · rw [h1] at HC2
      obtain ⟨a1, a2, _⟩ := globFault_inv h0
      obtain ⟨b1, b2⟩ := pathFault_inv h1
      have HF := Lib.hid (globFitsE_ok h0 h1)
      have HP := Lib.hid (fun w hM => Parts_any p w hM (by omega))
      have HS := Lib.hid (fun w hM => Parts_any s w hM (by omega))
      rw [pathParts_pos a1] at HP
      rw [pathParts_pos b1] at HS
      have HG := Lib.hid (fun B C vp vs w hp hs => GlobParts_any B C vp vs _ _ w (PartsOk.mk' h0 h1) hp hs)
      rw [globFits_eq] at HG
      generalize globFitsE p s = r at *
      clear h0 h1
      go_enter Tryd.func19, Tryd.ntmps19
      go_wp2_with fail
      refine (HC.out _ HM.out).mono ?_
      rintro e w1 ⟨rfl, hb⟩
      have HB1 := Lib.hid hb
      clear hb
      go_wp2_with fail
      refine (HC2.out _ (HM.out.below HB1.out)).mono ?_
      rintro e w2 ⟨rfl, hb⟩
      have HB2 := Lib.hid (HB1.out.trans (hb.mono HB1.out.size))
      clear hb
      go_wp2_with fail
      refine (HP.out _ (HM.out.below HB2.out)).mono ?_
      rintro e w3 ⟨v, rfl, ho, hb⟩
      have HB3 := Lib.hid (HB2.out.trans (hb.mono HB2.out.size))
      have HO := Lib.hid ho
      clear ho hb
      go_wp2_with fail
      refine (HS.out _ (HM.out.below HB3.out)).mono ?_
      rintro e w4 ⟨v4, rfl, ho, hb⟩
      have HB4 := Lib.hid (HB3.out.trans (hb.mono HB3.out.size))
      have HO4 := Lib.hid (HO.out.below hb)
      have HQ4 := Lib.hid ho
      clear ho hb
      go_wp2_with fail
      refine (HG.out _ _ _ _ _ HO4.out HQ4.out).mono ?_
      rintro e w5 ⟨rfl, hb⟩
      have HB5 := Lib.hid (HB4.out.trans (hb.mono HB4.out.size))
      clear hb
      go_wp2
      go_ret2
      exact ⟨ret_bi HF.out, HB5.out⟩
    · have HF := Lib.hid (globFitsE_path h0 h1)
      generalize globFitsE p s = r at *
      generalize pathFault s = c at *
      clear h0
      have hq : (c == 0) = false := by rw [beq_eq_false_iff_ne]; exact h1
      clear h1
      go_enter Tryd.func19, Tryd.ntmps19
      go_wp2_with fail
      refine (HC.out _ HM.out).mono ?_
      rintro e w1 ⟨rfl, hb⟩
      have HB1 := Lib.hid hb
      clear hb
      go_wp2_with fail
      refine (HC2.out _ (HM.out.below HB1.out)).mono ?_
      rintro e w2 ⟨rfl, hb⟩
      have HB2 := Lib.hid (HB1.out.trans (hb.mono HB1.out.size))
      clear hb
      go_wp2
      go_ret2
      exact ⟨ret_bi HF.out, HB2.out⟩
  · have HF := Lib.hid (globFitsE_bad (s := s) h0)
    generalize globFitsE p s = r at *
    generalize globFault p = c at *
    have hq : (c == 0) = false := by rw [beq_eq_false_iff_ne]; exact h0
    clear h0
    go_enter Tryd.func19, Tryd.ntmps19
    go_wp2_with fail
    refine (HC.out _ HM.out).mono ?_
    rintro e w1 ⟨rfl, hb⟩
    have HB1 := Lib.hid hb
    clear hb
    go_wp2
    go_ret2
    exact ⟨ret_bi HF.out, HB1.out⟩
set_option maxRecDepth 100000 in
set_option maxHeartbeats 1000000 in
theorem GlobFitsR_any (p s : ByteArray) (w : World) (hp : p.size ≤ maxLen) (hs : s.size ≤ maxLen) :
    Calls Tryd.prog 20 #[.string p, .string s] w fun e w' => e = .returned (.tuple #[.bool (globFitsE p s).1, .int .i64 (globFitsE p s).2]) ∧ Below w.heap.size w w' := by
  have HC := Lib.hid (fun w => GlobFault_any p w hp)
  have HC2 := Lib.hid (fun w => PathFault_any s w hs)
  by_cases h0 : globFault p = 0
  · rw [h0] at HC
    by_cases h1 : pathFault s = 0
    · rw [h1] at HC2
      obtain ⟨a1, a2, _⟩ := globFault_inv h0
      obtain ⟨b1, b2⟩ := pathFault_inv h1
      have HF := Lib.hid (globFitsE_ok h0 h1)
      have HP := Lib.hid (fun w => parts_any p 47 47 rfl w (by omega))
      have HS := Lib.hid (fun w => parts_any s 47 47 rfl w (by omega))
      have hk := PartsOk.mk' h0 h1
      have HT := Lib.hid (globFits_eqP p s)
      generalize partsS 47 p = P at *
      generalize partsS 47 s = S at *
      have n1 := hk.np
      have n2 := hk.ns
      have p0 := hk.p0
      have s0 := hk.s0
      have HG := Lib.hid (fun (B C : Nat) (vp vs : Value) (bp bs : Nat) (w : World) (h : PathE 9 w bp bs vp vs B C P S) =>
        Table_any P.length S.length 65 66 ⟨bp, 0, none⟩ ⟨bs, 0, none⟩ (starS P) (fitsS P S) w n1 n2
          (enter_of Tryd.func65 (by kernel_rfl) (by kernel_rfl)) (enter_of Tryd.func66 (by kernel_rfl) (by kernel_rfl))
          (fun w' i hb hi => PartsR1_any bp bs B C i vp vs P S w' (h.below hb) hi n1)
          (fun w' i k hb hi hj => PartsR2_any bp bs B C i k vp vs P S w' hk (h.below hb) hi hj))
      generalize globFitsE p s = r at *
      clear h0 h1 hk
      go_enter Tryd.func20, Tryd.ntmps20
      go_wp2_with fail
      refine (HC.out _).mono ?_
      rintro e w1 ⟨rfl, hb⟩
      have HB1 := Lib.hid hb
      clear hb
      go_wp2_with fail
      refine (HC2.out _).mono ?_
      rintro e w2 ⟨rfl, hb⟩
      have HB2 := Lib.hid (HB1.out.trans (hb.mono HB1.out.size))
      clear hb
      go_wp2_with fail
      refine (HP.out _).mono ?_
      rintro e w3 ⟨v, rfl, ho, hb⟩
      have HB3 := Lib.hid (HB2.out.trans (hb.mono HB2.out.size))
      rcases ho.form with ⟨_, e0⟩ | ⟨g, cap, rfl, _, _, hcap, hcm⟩
      · rw [e0] at p0; simp at p0
      · have HO := Lib.hid ho
        clear ho hb
        go_wp2_with fail
        refine (HS.out _).mono ?_
        rintro e w4 ⟨v4, rfl, ho, hb⟩
        rcases ho.form with ⟨_, e0⟩ | ⟨g', cap', rfl, _, _, hcap', hcm'⟩
        · rw [e0] at s0; simp at s0
        · have hz := hb.size
          have hb3 := Lib.hid (HB3.out.alloc HB3.out.size (.cells #[.slice (some ⟨g, 0, none⟩) P.length cap] 56))
          have HB4 := Lib.hid (hb3.out.trans (hb.mono (by have := HB3.out.size; simp; omega)))
          have hz3 : w3.heap.size < w4.heap.size := by simp at hz; omega
          have hc3 : w4.cell? ⟨w3.heap.size, 0, none⟩ = some (.slice (some ⟨g, 0, none⟩) P.length cap) := (hb.cell (p := ⟨w3.heap.size, 0, none⟩) (by simp)).trans (by simp)
          have HE := Lib.hid (show PathE 9 (w4.alloc (.cells #[.slice (some ⟨g', 0, none⟩) S.length cap'] 56)) w3.heap.size w4.heap.size _ _ _ _ P S from
            ⟨((Below.refl w4.heap.size w4).alloc (Nat.le_refl _) _).cell (p := ⟨w3.heap.size, 0, none⟩) hz3 |>.trans hc3, ((HO.out.below ((Below.refl _ _).alloc (Nat.le_refl _) _)).below hb).below ((Below.refl _ _).alloc (Nat.le_refl _) _), by simp, ho.below ((Below.refl _ _).alloc (Nat.le_refl _) _)⟩)
          clear ho hb hz hc3
          have hc3 := HE.out.pat
          go_wp2_with fail
          refine (HG.out _ _ _ _ _ _ _ HE.out).mono ?_
          rintro e w5 ⟨rfl, hb⟩
          have HB5 := Lib.hid ((HB4.out.alloc HB4.out.size _).trans (hb.mono (by have := HB4.out.size; simp; omega)))
          rw [HT.out]
          clear hb
          go_wp2
          go_ret2
          exact ⟨ret_bi HF.out, HB5.out⟩
    · have HF := Lib.hid (globFitsE_path h0 h1)
      generalize globFitsE p s = r at *
      generalize pathFault s = c at *
      clear h0
      have hq : (c == 0) = false := by rw [beq_eq_false_iff_ne]; exact h1
      clear h1
      go_enter Tryd.func20, Tryd.ntmps20
      go_wp2_with fail
      refine (HC.out _).mono ?_
      rintro e w1 ⟨rfl, hb⟩
      have HB1 := Lib.hid hb
      clear hb
      go_wp2_with fail
      refine (HC2.out _).mono ?_
      rintro e w2 ⟨rfl, hb⟩
      have HB2 := Lib.hid (HB1.out.trans (hb.mono HB1.out.size))
      clear hb
      go_wp2
      go_ret2
      exact ⟨ret_bi HF.out, HB2.out⟩
  · have HF := Lib.hid (globFitsE_bad (s := s) h0)
    generalize globFitsE p s = r at *
    generalize globFault p = c at *
    have hq : (c == 0) = false := by rw [beq_eq_false_iff_ne]; exact h0
    clear h0
    go_enter Tryd.func20, Tryd.ntmps20
    go_wp2_with fail
    refine (HC.out _).mono ?_
    rintro e w1 ⟨rfl, hb⟩
    have HB1 := Lib.hid hb
    clear hb
    go_wp2
    go_ret2
    exact ⟨ret_bi HF.out, HB1.out⟩
end Go.Proofs.YtecmcgedeaemgaaDoor
/-
  What rules take: filter.takes, filter.Takes and their references, walked.
-/
namespace Go.Creel
set_option linter.unusedVariables false
set_option linter.unusedSimpArgs false
open Go.RowKit
/-- what the first k rules say -/
def takenTo (l : List Rul) (s : ByteArray) : Nat → Bool
  | 0 => true
  | k + 1 => if (globFitsE (rk l k).pat s).1 = true then (rk l k).take else takenTo l s k
def takenR (l : List Rul) (s : ByteArray) : Bool := takenTo l s l.length
theorem takenTo_yes {l : List Rul} {s : ByteArray} {k : Nat} (h : (globFitsE (rk l k).pat s).1 = true) : takenTo l s (k + 1) = (rk l k).take := by rw [takenTo, if_pos h]
theorem takenTo_no {l : List Rul} {s : ByteArray} {k : Nat} (h : (globFitsE (rk l k).pat s).1 = false) : takenTo l s (k + 1) = takenTo l s k := by rw [takenTo, if_neg (by rw [h]; simp)]
def takesE (l : List Rul) (s : ByteArray) : Bool × Int := if ¬ rulesFault l = 0 then (false, rulesFault l) else if ¬ pathFault s = 0 then (false, pathFault s) else (takenR l s, 0)
theorem takesE_bad {l : List Rul} {s : ByteArray} (h : ¬ rulesFault l = 0) : takesE l s = (false, rulesFault l) := by unfold takesE; rw [if_pos h]
theorem takesE_path {l : List Rul} {s : ByteArray} (h : rulesFault l = 0) (h2 : ¬ pathFault s = 0) : takesE l s = (false, pathFault s) := by unfold takesE; rw [if_neg (by simpa using h), if_pos h2]
theorem takesE_ok {l : List Rul} {s : ByteArray} (h : rulesFault l = 0) (h2 : pathFault s = 0) : takesE l s = (takenR l s, 0) := by unfold takesE; rw [if_neg (by simpa using h), if_neg (by simpa using h2)]
end Go.Creel
namespace Go.Proofs.YtecmcgedeaemgaaDoor
set_option linter.unusedVariables false
set_option linter.unusedSimpArgs false
open Go.Creel Go.RowKit
set_option maxRecDepth 100000 in
set_option maxHeartbeats 1000000 in
theorem TakesL_at (b off cap : Nat) (l : List Rul) (s : ByteArray) (w : World) (hM : MaxOk w) (hs : s.size ≤ maxLen) (hpos : 0 < l.length) (hle : l.length ≤ cap) (hm : cap ≤ maxLen) (hc : RulsAt w b off l) (ho : ∀ i, i < l.length → (rk l i).pat.size ≤ maxLen) :
    Calls Tryd.prog 68 #[.slice (some ⟨b, off, none⟩) l.length cap, .string s] w fun e w' => e = .returned (.bool (takenR l s)) ∧ Below w.heap.size w w' := by
  unfold maxLen at hm
  have HC := Lib.hid hc
  have HO := Lib.hid ho
  have HM := Lib.hid hM
  have HSS := Lib.hid hs
  clear hc ho hM hs
  go_enter Tryd.func68, Tryd.ntmps68
  go_wp2
  go_loopw [5, 6, 7] (fun v5 _ _ wr => ∃ k : Nat, k ≤ l.length ∧ v5 = .int .i64 ((k : Int) - 1) ∧ Hid (takenR l s = takenTo l s k) ∧ Hid (Below w.heap.size w wr)) (fun v5 _ _ _ => ((intOf v5) + 1).toNat)
  case atStart => exact ⟨l.length, by omega, rfl, Lib.hid rfl, Lib.hid (Below.refl _ _)⟩
  case round =>
    obtain ⟨k, hk, rfl, HD, HB⟩ := hrel
    cases k with
    | zero =>
      have HF := Lib.hid (HD.out.trans (by rw [takenTo]))
      rw [show ((0 : Nat) : Int) - 1 = -1 by rfl]
      go_wp2
      go_ret
      exact ⟨ret_b HF.out, HB.out⟩
    | succ j =>
      rw [show (((j + 1 : Nat)) : Int) - 1 = (j : Int) by omega]
      have hjl : j < l.length := by omega
      obtain ⟨h0, h1⟩ := (HC.out.below HB.out) j hjl
      have HG := Lib.hid (fun w hM => GlobFitsL_any (rk l j).pat s w hM (HO.out j hjl) HSS.out)
      have HYES := Lib.hid (fun h => HD.out.trans (takenTo_yes (l := l) (s := s) (k := j) h))
      have HNO := Lib.hid (fun h => HD.out.trans (takenTo_no (l := l) (s := s) (k := j) h))
      have HRAT := Lib.hid (fun w' hb => RulAt.below (w := wr) (w' := w') (b := b) (o := off + j * 2) (x := rk l j) ⟨h0, h1⟩ hb)
      generalize rk l j = x at *
      generalize globFitsE x.pat s = r at *
      obtain ⟨r1, r2⟩ := r
      clear HD
      go_wp2_with fail
      refine (HG.out _ (HM.out.below HB.out)).mono ?_
      rintro e w2 ⟨rfl, hb⟩
      have HB2 := Lib.hid (HB.out.trans (hb.mono HB.out.size))
      obtain ⟨g0, g1⟩ := HRAT.out _ hb
      clear hb
      cases r1 with
      | true =>
        have HF := Lib.hid (HYES.out rfl)
        go_wp2
        go_ret
        exact ⟨ret_b HF.out, HB2.out⟩
      | false =>
        have HN := Lib.hid (HNO.out rfl)
        go_wp2
        go_roundw
        case rel => exact ⟨j, by omega, rfl, HN, HB2⟩
        case measure => simp [intOf]
set_option maxRecDepth 100000 in
theorem TakesL_nil (a : Option Addr) (cap : Nat) (s : ByteArray) (w : World) :
    Calls Tryd.prog 68 #[.slice a 0 cap, .string s] w fun e w' => e = .returned (.bool true) ∧ w = w' := by
  go_enter Tryd.func68, Tryd.ntmps68
  go_wp2
  go_loop [5, 6, 7] (fun i _ _ => i = .int .i64 (-1)) (fun i _ _ => 0)
  case atStart => rfl
  case round =>
    obtain rfl := hrel
    go_wp2
    go_ret
    exact ⟨rfl, rfl⟩
theorem TakesL_any (v : Value) (l : List Rul) (s : ByteArray) (w : World) (hM : MaxOk w) (hs : s.size ≤ maxLen) (h : SliceC maxLen 2 (RulC maxLen) w [v] l) :
    Calls Tryd.prog 68 #[v, .string s] w fun e w' => e = .returned (.bool (takenR l s)) ∧ Below w.heap.size w w' := by
  rcases ruls_cases h with ⟨a, cap, rfl, rfl, _⟩ | ⟨b, off, cap, rfl, h1, h2, h3, _, h4, h5⟩
  · exact (TakesL_nil a cap s w).mono fun e w' ⟨h1, h2⟩ => ⟨h1, by rw [← h2]; exact Below.refl _ _⟩
  · exact TakesL_at b off cap l s w hM hs h1 h2 h3 h4 h5
set_option maxRecDepth 100000 in
set_option maxHeartbeats 1000000 in
theorem TakenR_at (b off cap : Nat) (l : List Rul) (s : ByteArray) (w : World) (hs : s.size ≤ maxLen) (hpos : 0 < l.length) (hle : l.length ≤ cap) (hm : cap ≤ maxLen) (hc : RulsAt w b off l) (ho : ∀ i, i < l.length → (rk l i).pat.size ≤ maxLen) :
    Calls Tryd.prog 69 #[.slice (some ⟨b, off, none⟩) l.length cap, .string s] w fun e w' => e = .returned (.bool (takenR l s)) ∧ Below w.heap.size w w' := by
  unfold maxLen at hm
  have HC := Lib.hid hc
  have HO := Lib.hid ho
  have HSS := Lib.hid hs
  clear hc ho hs
  go_enter Tryd.func69, Tryd.ntmps69
  go_wp2
  go_loopw [5, 7, 8, 9, 12] (fun v5 _ _ _ i wr => ∃ (k : Nat) (q : Bool), k ≤ l.length ∧ i = .int .i64 k ∧ v5 = .bool q ∧ Hid (q = takenTo l s k) ∧ Hid (Below w.heap.size w wr)) (fun _ _ _ _ i _ => l.length - (intOf i).toNat)
  case atStart => exact ⟨0, true, by omega, rfl, rfl, Lib.hid rfl, Lib.hid (Below.refl _ _)⟩
  case round =>
    obtain ⟨k, q, hk, rfl, rfl, HD, HB⟩ := hrel
    by_cases hlt : k < l.length
    · obtain ⟨h0, h1⟩ := (HC.out.below HB.out) k hlt
      have HG := Lib.hid (fun w => GlobFitsR_any (rk l k).pat s w (HO.out k hlt) HSS.out)
      have HYES := Lib.hid (fun h => (takenTo_yes (l := l) (s := s) (k := k) h).symm)
      have HNO := Lib.hid (fun h => HD.out.trans (takenTo_no (l := l) (s := s) (k := k) h).symm)
      generalize rk l k = x at *
      generalize globFitsE x.pat s = r at *
      obtain ⟨r1, r2⟩ := r
      clear HD
      have HBB := Lib.hid (HB.out.alloc HB.out.size (.cells #[.bool x.take, .string x.pat] 81))
      go_wp2_with fail
      refine (HG.out _).mono ?_
      rintro e w2 ⟨rfl, hb⟩
      have HB2 := Lib.hid (HBB.out.trans (hb.mono HBB.out.size))
      have g0 : w2.cell? ⟨wr.heap.size, 0, none⟩ = some (.bool x.take) := (hb.cell (p := ⟨wr.heap.size, 0, none⟩) (by simp)).trans (by simp [World.cell?_alloc_new])
      clear hb
      cases r1 with
      | true =>
        have HF := Lib.hid (HYES.out rfl)
        go_wp2
        go_roundw
        case rel => exact ⟨k + 1, _, by omega, by go_num, rfl, HF, HB2⟩
        case measure => simp [intOf]; omega
      | false =>
        have HN := Lib.hid (HNO.out rfl)
        go_wp2
        go_roundw
        case rel => exact ⟨k + 1, _, by omega, by go_num, rfl, HN, HB2⟩
        case measure => simp [intOf]; omega
    · obtain rfl : k = l.length := by omega
      have HF := Lib.hid (show takenR l s = q from HD.out.symm)
      go_wp2
      go_ret
      exact ⟨ret_b HF.out, HB.out⟩
set_option maxRecDepth 100000 in
theorem TakenR_nil (a : Option Addr) (cap : Nat) (s : ByteArray) (w : World) :
    Calls Tryd.prog 69 #[.slice a 0 cap, .string s] w fun e w' => e = .returned (.bool true) ∧ w = w' := by
  go_enter Tryd.func69, Tryd.ntmps69
  go_wp2
  go_loop [5, 7, 8, 9, 12] (fun v5 _ _ _ i => i = .int .i64 0 ∧ v5 = .bool true) (fun _ _ _ _ i => 0)
  case atStart => exact ⟨rfl, rfl⟩
  case round =>
    obtain ⟨rfl, rfl⟩ := hrel
    go_wp2
    go_ret
    exact ⟨rfl, rfl⟩
theorem TakenR_any (v : Value) (l : List Rul) (s : ByteArray) (w : World) (hs : s.size ≤ maxLen) (h : SliceC maxLen 2 (RulC maxLen) w [v] l) :
    Calls Tryd.prog 69 #[v, .string s] w fun e w' => e = .returned (.bool (takenR l s)) ∧ Below w.heap.size w w' := by
  rcases ruls_cases h with ⟨a, cap, rfl, rfl, _⟩ | ⟨b, off, cap, rfl, h1, h2, h3, _, h4, h5⟩
  · exact (TakenR_nil a cap s w).mono fun e w' ⟨h1, h2⟩ => ⟨h1, by rw [← h2]; exact Below.refl _ _⟩
  · exact TakenR_at b off cap l s w hs h1 h2 h3 h4 h5
end Go.Proofs.YtecmcgedeaemgaaDoor
/-
  What rules take of a tree: plain words and laws.
-/
namespace Go.Creel
set_option linter.unusedVariables false
set_option linter.unusedSimpArgs false
open Go.RowKit
theorem treeFault_steps {l : List Nod} (h : treeFault l = 0) : ∀ k, k < l.length → stepF l k = 0 := by
  have hl := (treeFault_all h).1
  have key : ∀ k, k ≤ l.length → ∀ j, j < k → stepF l j = 0 := by
    intro k
    induction k with
    | zero => intro _ j hj; omega
    | succ k ih =>
      intro hk j hj
      by_cases e : j = k
      · subst e
        refine Classical.byContradiction fun hne => ?_
        exact hne ((treeFault_at hl (by omega) (ih (by omega)) rfl hne).symm.trans h)
      · exact ih (by omega) j (by omega)
  exact key _ (Nat.le_refl _)
theorem stepF_ups {l : List Nod} {i : Nat} (h : stepF l i = 0) : OrdOk l i ∧ UpOk l i := by
  have h0 := (stepF_zero h).1
  have h1 : OrdOk l i := fun hi => Classical.byContradiction fun e => by
    have := stepF_ord h0 hi e
    rw [h] at this; cases this
  refine ⟨h1, fun hu => Classical.byContradiction fun e => ?_⟩
  have := stepF_up h0 h1 hu e
  rw [h] at this; cases this
theorem up_lt {s : ByteArray} (h : 0 < s.size) : (pathUp s).size < s.size := by
  rcases last_cases s with ⟨_, e, _⟩ | ⟨i, _, hi, e, _⟩
  · rw [e]; exact h
  · rw [e]; simp; omega
/-- is a path taken, with all that it is in? -/
def allTk (r : List Rul) (s : ByteArray) : Bool := if h : 0 < s.size then takenR r s && allTk r (pathUp s) else true
  termination_by s.size
  decreasing_by exact up_lt h
theorem allTk_none {r : List Rul} {s : ByteArray} (h : s.size = 0) : allTk r s = true := by rw [allTk, dif_neg (by omega)]
theorem allTk_more {r : List Rul} {s : ByteArray} (h : 0 < s.size) : allTk r s = (takenR r s && allTk r (pathUp s)) := by rw [allTk, dif_pos h]
theorem treeFind_mem : ∀ {l : List Nod} {s : ByteArray} {x : Nod}, x ∈ l → x.path = s → treeFind l s < l.length
  | [], _, _, h, _ => by cases h
  | y :: l, s, x, h, e => by
    unfold treeFind
    by_cases e1 : y.path = s
    · rw [if_pos e1]; simp
    · rw [if_neg e1]
      have := treeFind_mem (l := l) (s := s) (by rcases List.mem_cons.1 h with rfl | h; exact absurd e e1; exact h) e
      simp; omega
def keptB (r : List Rul) (x : Nod) : Bool := allTk r x.path
theorem kept_up {l : List Nod} {r : List Rul} {i : Nat} (h : treeFault l = 0) (hi : i < l.length) (hu : (pathUp (nk l i).path).size ≠ 0) :
    treeFind ((l.take i).filter (keptB r)) (pathUp (nk l i).path) < ((l.take i).filter (keptB r)).length ↔ allTk r (pathUp (nk l i).path) = true := by
  generalize hs : pathUp (nk l i).path = s at *
  constructor
  · intro hf
    have hp := treeFind_lt hf
    generalize hq : treeFind ((l.take i).filter (keptB r)) s = q at *
    have hm : nk ((l.take i).filter (keptB r)) q ∈ (l.take i).filter (keptB r) := by rw [nk_eq hf]; exact List.getElem_mem _
    have := (List.mem_filter.1 hm).2
    have e : allTk r (nk ((l.take i).filter (keptB r)) q).path = true := this
    rwa [hp] at e
  · intro ht
    have hup := (stepF_ups (treeFault_steps h i hi)).2 (by rw [hs]; exact hu)
    rw [hs] at hup
    have hlen : (l.take i).length = i := by rw [List.length_take]; omega
    have hf : treeFind (l.take i) s < (l.take i).length := by rw [hlen]; exact hup.1
    have hp := treeFind_lt hf
    have hm : nk (l.take i) (treeFind (l.take i) s) ∈ l.take i := by rw [nk_eq hf]; exact List.getElem_mem _
    exact treeFind_mem (List.mem_filter.2 ⟨hm, by unfold keptB; rw [hp]; exact ht⟩) hp
noncomputable def filtered (l : List Nod) (r : List Rul) : List Nod × Int := if ¬ treeFault l = 0 then ([], treeFault l) else if ¬ rulesFault r = 0 then ([], rulesFault r) else (l.filter (keptB r), 0)
theorem filtered_bad {l : List Nod} {r : List Rul} (h : ¬ treeFault l = 0) : filtered l r = ([], treeFault l) := by unfold filtered; rw [if_pos h]
theorem filtered_rules {l : List Nod} {r : List Rul} (h : treeFault l = 0) (h2 : ¬ rulesFault r = 0) : filtered l r = ([], rulesFault r) := by unfold filtered; rw [if_neg (by simpa using h), if_pos h2]
theorem filtered_ok {l : List Nod} {r : List Rul} (h : treeFault l = 0) (h2 : rulesFault r = 0) : filtered l r = (l.filter (keptB r), 0) := by unfold filtered; rw [if_neg (by simpa using h), if_neg (by simpa using h2)]
theorem keep_none {l : List Nod} {r : List Rul} {i : Nat} (ht : takenR r (nk l i).path = false) (hp : 0 < (nk l i).path.size) : keptB r (nk l i) = false := by unfold keptB; rw [allTk_more hp, ht]; rfl
theorem keep_root {l : List Nod} {r : List Rul} {i : Nat} (ht : takenR r (nk l i).path = true) (hp : 0 < (nk l i).path.size) (hu : (pathUp (nk l i).path).size = 0) : keptB r (nk l i) = true := by unfold keptB; rw [allTk_more hp, ht, allTk_none hu]; rfl
theorem keep_up {l : List Nod} {r : List Rul} {i : Nat} (h : treeFault l = 0) (hi : i < l.length) (ht : takenR r (nk l i).path = true) (hp : 0 < (nk l i).path.size) (hu : (pathUp (nk l i).path).size ≠ 0) :
    keptB r (nk l i) = decide (treeFind ((l.take i).filter (keptB r)) (pathUp (nk l i).path) < ((l.take i).filter (keptB r)).length) := by
  unfold keptB
  rw [allTk_more hp, ht, Bool.true_and, Bool.eq_iff_iff, decide_eq_true_eq]
  exact (kept_up (r := r) h hi hu).symm
theorem nodFault_pos {x : Nod} (h : nodFault x = 0) : 0 < x.path.size := by
  unfold nodFault nodFaultN at h
  have hp : pathFault x.path = 0 := Classical.byContradiction fun e => by rw [if_pos e] at h; exact e h
  exact (pathFault_inv hp).1
theorem filtered_len (l : List Nod) (r : List Rul) : (filtered l r).1.length ≤ maxLen := by
  unfold maxLen
  by_cases h : treeFault l = 0
  · have h1 := (treeFault_all h).1
    by_cases hf : rulesFault r = 0
    · rw [filtered_ok h hf]
      have h2 : (l.filter (keptB r)).length ≤ l.length := List.length_filter_le _ _
      simp only
      omega
    · rw [filtered_rules h hf]; simp
  · rw [filtered_bad h]; simp
end Go.Creel
/-
  Members of the call's own: its row, and where its bytes lie. No program is named here.
-/
namespace Go.Creel
set_option linter.unusedVariables false
set_option linter.unusedSimpArgs false
open Go.RowKit
abbrev Ent.dat (x : Ent) : Value := .slice x.da x.data.length x.dcap
/-- the node, but for where its bytes lie -/
def Ent.bare (x : Ent) : Ent := { x with da := none, dcap := 0 }
/-- a node that may lie in the row of v: its bytes lie elsewhere -/
def EntIn (w : World) (v : Value) (x : Ent) : Prop := x.Ok maxLen w ∧ ∀ a, 0 < x.data.length → x.da = some a → v.ownBlock ≠ some a.block
def OwnEnts (t : TypeId) (w : World) (B : Nat) (v : Value) (l : List Ent) : Prop := w.ownsRow B t 11 v l.length (l.flatMap Ent.cells) ∧ ∀ x, x ∈ l → EntIn w v x
theorem Ent.cells_len (x : Ent) : x.cells.length = 11 := rfl
theorem flatE_len : ∀ l : List Ent, (l.flatMap Ent.cells).length = l.length * 11
  | [] => rfl
  | x :: r => by rw [List.flatMap_cons, List.length_append, flatE_len r, Ent.cells_len, List.length_cons]; omega
theorem flatE_at : ∀ (l : List Ent) (k j : Nat), k < l.length → j < 11 → (l.flatMap Ent.cells)[k * 11 + j]? = (ek l k).cells[j]?
  | [], _, _, h, _ => absurd h (by simp)
  | x :: r, 0, j, _, hj => by
    rw [List.flatMap_cons, Nat.zero_mul, Nat.zero_add, List.getElem?_append_left (by rw [Ent.cells_len]; omega)]
    rfl
  | x :: r, k + 1, j, hk, hj => by
    rw [List.flatMap_cons, List.getElem?_append_right (by rw [Ent.cells_len]; omega), Ent.cells_len]
    have e : (k + 1) * 11 + j - 11 = k * 11 + j := by omega
    rw [e, flatE_at r k j (by simpa using hk) hj]
    rfl
theorem flatE_set : ∀ (l : List Ent) (k j : Nat) (y : Ent) (u : Value), k < l.length → j < 11 → y.cells = (ek l k).cells.set j u → (l.flatMap Ent.cells).set (k * 11 + j) u = (l.set k y).flatMap Ent.cells
  | [], _, _, _, _, h, _, _ => absurd h (by simp)
  | x :: r, 0, j, y, u, _, hj, hy => by
    rw [List.flatMap_cons, Nat.zero_mul, Nat.zero_add, List.set_append_left _ _ (by rw [Ent.cells_len]; omega), List.set_cons_zero, List.flatMap_cons, hy]
    rfl
  | x :: r, k + 1, j, y, u, hk, hj, hy => by
    rw [List.flatMap_cons, List.set_append_right _ _ (by rw [Ent.cells_len]; omega), Ent.cells_len]
    have e : (k + 1) * 11 + j - 11 = k * 11 + j := by omega
    rw [e, flatE_set r k j y u (by simpa using hk) hj hy, List.set_cons_succ, List.flatMap_cons]
theorem Ent.Ok.grown {w w' : World} {x : Ent} {row : Option Nat} (h : x.Ok maxLen w) (hg : w.grownBy w' row) (hne : ∀ p, 0 < x.data.length → x.da = some p → row ≠ some p.block) : x.Ok maxLen w' :=
  ⟨h.path, h.kind, h.target, h.mt, bytesC_grown h.data hg hne⟩
theorem Ent.Ok.lt {w : World} {x : Ent} (h : x.Ok maxLen w) (p : Addr) (hl : 0 < x.data.length) (hp : x.da = some p) : p.block < w.heap.size := bytesC_lt h.data p hl hp
section
variable {t : TypeId} {w w' : World} {B : Nat} {v v' : Value} {l m : List Ent}
theorem EntIn.below {x : Ent} (h : EntIn w v x) (hb : Below w.heap.size w w') : EntIn w' v x := ⟨h.1.below hb, h.2⟩
theorem OwnEnts.nil (t : TypeId) (w : World) (B : Nat) : OwnEnts t w B (.slice none 0 0) [] := ⟨World.ownsRow_nil w B t 11, fun x hx => absurd hx (by simp)⟩
theorem OwnEnts.below (h : OwnEnts t w B v l) (hb : Below w.heap.size w w') : OwnEnts t w' B v l := ⟨ownsRow_below h.1 hb, fun x hx => (h.2 x hx).below hb⟩
theorem OwnEnts.mono {B' : Nat} (h : OwnEnts t w B v l) (hb : B' ≤ B) : OwnEnts t w B' v l := by
  refine ⟨⟨h.1.1, ?_⟩, h.2⟩
  rcases h.1.2 with ⟨rfl, h0⟩ | ⟨g, cap, cur, rfl, hbg, r⟩
  · exact .inl ⟨rfl, h0⟩
  · exact .inr ⟨g, cap, cur, rfl, Nat.le_trans hb hbg, r⟩
theorem OwnEnts.slice (h : OwnEnts t w B v l) (hl : l.length ≤ maxLen) : SliceC maxLen 11 (EntC maxLen) w [v] l := by
  rcases h.1.2 with ⟨rfl, h0⟩ | ⟨g, cap, cur, rfl, hbg, hg, hnc, hcm, hcs, htake⟩
  · obtain rfl := List.eq_nil_of_length_eq_zero h0
    exact ⟨none, 0, rfl, by simp, by simp, by simp, fun _ => rfl, fun h => absurd h (by simp)⟩
  · refine ⟨some ⟨g, 0, none⟩, cap, rfl, hnc, hcm, hl, (fun h => by cases h), fun _ => ⟨g, 0, rfl, fun i hi => ⟨(l[i]).cells, rfl, fun j hj => ?_, rfl, (h.2 _ (List.getElem_mem hi)).1⟩⟩⟩
    rw [Nat.zero_add, h.1.cellAt _ (by omega), flatE_at l i j hi hj, ek_eq hi]
theorem OwnEnts.form (h : OwnEnts t w B v l) : (v = .slice none 0 0 ∧ l = []) ∨ ∃ g cap, v = .slice (some ⟨g, 0, none⟩) l.length cap ∧ B ≤ g ∧ g < w.heap.size ∧ l.length ≤ cap ∧ cap ≤ maxLen := by
  rcases h.1.2 with ⟨rfl, h0⟩ | ⟨g, cap, cur, rfl, hbg, hg, hnc, hcm, hcs, htake⟩
  · exact .inl ⟨rfl, List.eq_nil_of_length_eq_zero h0⟩
  · exact .inr ⟨g, cap, rfl, hbg, (Array.getElem?_eq_some_iff.1 hg).1, hnc, hcm⟩
theorem OwnEnts.entAt {g cap : Nat} (h : OwnEnts t w B (.slice (some ⟨g, 0, none⟩) l.length cap) l) {k : Nat} (hk : k < l.length) : EntAt w g (k * 11) (ek l k) := by
  have c := fun j hj => (h.1.cellAt (k * 11 + j) (by omega)).trans (flatE_at l k j hk hj)
  exact ⟨c 0 (by omega), c 1 (by omega), c 2 (by omega), c 3 (by omega), c 4 (by omega), c 5 (by omega), c 6 (by omega), c 7 (by omega), c 8 (by omega), c 9 (by omega), c 10 (by omega)⟩
theorem OwnEnts.entIn (h : OwnEnts t w B v l) {k : Nat} (hk : k < l.length) : EntIn w v (ek l k) := by
  rw [ek_eq hk]
  exact h.2 _ (List.getElem_mem hk)
theorem OwnEnts.app (h : OwnEnts t w B v l) (hm : ∀ x, x ∈ m → EntIn w v x) (ho : w'.ownsRow B t 11 v' (l.length + m.length) (l.flatMap Ent.cells ++ m.flatMap Ent.cells)) (hg : w.grownBy w' v.ownBlock)
    (hv : v'.ownBlock = v.ownBlock ∨ ∃ b, v'.ownBlock = some b ∧ w.heap.size ≤ b) : OwnEnts t w' B v' (l ++ m) := by
  refine ⟨by rw [List.length_append, List.flatMap_append]; exact ho, fun x hx => ?_⟩
  have hin : EntIn w v x := by
    rcases List.mem_append.1 hx with a | a
    · exact h.2 x a
    · exact hm x a
  refine ⟨hin.1.grown hg hin.2, fun a hp ha => ?_⟩
  rcases hv with e | ⟨b, e, hb⟩
  · rw [e]; exact hin.2 a hp ha
  · rw [e]
    intro e2
    have h3 := hin.1.lt a hp ha
    simp only [Option.some.injEq] at e2
    omega
theorem OwnEnts.put {g cap k j : Nat} (h : OwnEnts t w B (.slice (some ⟨g, 0, none⟩) l.length cap) l) (hk : k < l.length) (hj : j < 11) (y : Ent) (u : Value) (hy : y.cells = (ek l k).cells.set j u)
    (hin : EntIn w (.slice (some ⟨g, 0, none⟩) l.length cap) y) : OwnEnts t (w.setCell ⟨g, k * 11 + j, none⟩ u) B (.slice (some ⟨g, 0, none⟩) l.length cap) (l.set k y) ∧ w.grownBy (w.setCell ⟨g, k * 11 + j, none⟩ u) (some g) := by
  obtain ⟨h1, h2⟩ := h.1.stored (k * 11 + j) u
  refine ⟨⟨?_, fun x hx => ?_⟩, h2⟩
  · rw [flatE_set l k j y u hk hj hy] at h1
    rw [List.length_set]
    exact h1
  · have hin' : EntIn w (.slice (some ⟨g, 0, none⟩) l.length cap) x := by
      rcases List.mem_or_eq_of_mem_set hx with a | a
      · exact h.2 x a
      · rw [a]; exact hin
    exact ⟨hin'.1.grown h2 hin'.2, hin'.2⟩
end
/-- the cells of a node in a box as a source -/
theorem src_ent {P : Program} (w : World) (tx e' e : TypeId) (hk : P.underlying tx = some (.slice e')) (x : Ent) : Src P 11 tx (.slice (some ⟨w.heap.size, 0, none⟩) 1 1) 1 ([x].flatMap Ent.cells) (w.alloc (.cells #[.string x.path, .int .i64 x.kind, .string x.target, .int .i64 x.mt.mode, .int .i64 x.mt.uid, .int .i64 x.mt.gid, .string x.mt.user, .string x.mt.group, .int .i64 x.mt.second, .int .i64 x.mt.nano, .slice x.da x.data.length x.dcap] e)) := by
  refine Src.ofSlice _ hk ⟨w.heap.size, 0, none⟩ 1 1 _ rfl (fun j u hu => ?_) (fun u hu => ?_)
  · have hj : j < 11 := by
      rcases Nat.lt_or_ge j 11 with h | h
      · exact h
      · rw [List.getElem?_eq_none (by simpa [Ent.cells] using h)] at hu; cases hu
    have e : (⟨w.heap.size, 0, none⟩ : Addr).add j = ⟨w.heap.size, j, none⟩ := by unfold Addr.add; split <;> simp_all
    rw [e, World.cell?_alloc_new]
    simpa [Ent.cells] using hu
  · simp [Ent.cells] at hu
    rcases hu with rfl | rfl | rfl | rfl | rfl | rfl | rfl | rfl | rfl | rfl | rfl <;> rfl
/-- a new tree -/
def RetL (t : TypeId) (w : World) (l : List Ent) (e : Ending) (w' : World) : Prop := ∃ v l', e = .returned v ∧ OwnEnts t w' w.heap.size v l' ∧ l'.map Ent.bare = l.map Ent.bare ∧ Below w.heap.size w w'
/-- a new tree and a number -/
def RetLE (t : TypeId) (w : World) (p : List Ent × Int) (e : Ending) (w' : World) : Prop := ∃ v l', e = .returned (.tuple #[v, .int .i64 p.2]) ∧ OwnEnts t w' w.heap.size v l' ∧ l'.map Ent.bare = p.1.map Ent.bare ∧ Below w.heap.size w w'
end Go.Creel
/-
  Files that are one: the plain words.
-/
namespace Go.Creel
set_option linter.unusedVariables false
open Go.RowKit
/-- the place of the first node that is the same file -/
noncomputable def fstIdx (l : List Nod) (k : Nat) : Nat := if (nk l k).same = 0 then k else (fstAt l k (nk l k).same).getD k
noncomputable def firstsL (l : List Nod) (k : Nat) : List Int := (List.range k).map fun i => (fstIdx l i : Int)
theorem firstsL_zero (l : List Nod) : firstsL l 0 = [] := rfl
theorem firstsL_succ (l : List Nod) (k : Nat) : firstsL l (k + 1) = firstsL l k ++ [(fstIdx l k : Int)] := by unfold firstsL; rw [List.range_succ, List.map_append]; rfl
theorem firstsL_len (l : List Nod) (k : Nat) : (firstsL l k).length = k := by simp [firstsL]
theorem fstIdx_zero {l : List Nod} {k : Nat} (h : (nk l k).same = 0) : fstIdx l k = k := if_pos h
theorem fstIdx_some {l : List Nod} {k j : Nat} (h : (nk l k).same ≠ 0) (hj : fstAt l k (nk l k).same = some j) : fstIdx l k = j := by unfold fstIdx; rw [if_neg h, hj]; rfl
theorem fstIdx_none {l : List Nod} {k : Nat} (h : (nk l k).same ≠ 0) (hj : fstAt l k (nk l k).same = none) : fstIdx l k = k := by unfold fstIdx; rw [if_neg h, hj]; rfl
theorem fstIdx_le (l : List Nod) (k : Nat) : fstIdx l k ≤ k := by
  by_cases h : (nk l k).same = 0
  · rw [fstIdx_zero h]; exact Nat.le_refl _
  · cases hj : fstAt l k (nk l k).same with
    | none => rw [fstIdx_none h hj]; exact Nat.le_refl _
    | some j => rw [fstIdx_some h hj]; exact Nat.le_of_lt (fstAt_some hj).1
/-- the table of the files met so far -/
def FIdx (l : List Nod) (k : Nat) (m : List (Int × Value)) : Prop := ∀ s, s ≠ 0 → assoc s m = (fstAt l k s).map fun j => .int .i64 j
theorem FIdx.start (l : List Nod) : FIdx l 0 [] := fun s _ => rfl
theorem FIdx.skip {l : List Nod} {k : Nat} {m : List (Int × Value)} (h : FIdx l k m) (h0 : (nk l k).same = 0) : FIdx l (k + 1) m := by
  intro s hs
  rw [h s hs, fstAt_succ, if_neg (fun e => hs (e.symm.trans h0)), Option.or_none]
theorem FIdx.has {l : List Nod} {k j : Nat} {m : List (Int × Value)} (h : FIdx l k m) (hj : fstAt l k (nk l k).same = some j) : FIdx l (k + 1) m := by
  intro s hs
  rw [h s hs, fstAt_succ]
  by_cases e : (nk l k).same = s
  · rw [← e, hj]; rfl
  · rw [if_neg e, Option.or_none]
theorem FIdx.put {l : List Nod} {k : Nat} {m : List (Int × Value)} (h : FIdx l k m) (h0 : (nk l k).same ≠ 0) (hj : fstAt l k (nk l k).same = none) : FIdx l (k + 1) (assocPut (nk l k).same (.int .i64 k) m) := by
  intro s hs
  rw [assoc_put, fstAt_succ]
  by_cases e : s = (nk l k).same
  · rw [if_pos e, e, hj, if_pos rfl]; rfl
  · rw [if_neg e, if_neg (fun h => e h.symm), Option.or_none, h s hs]
/-- two nodes have one first place just if they are one, or one file -/
theorem fstIdx_same {l : List Nod} {k : Nat} (h : (nk l k).same ≠ 0) : (nk l (fstIdx l k)).same = (nk l k).same ∧ ∀ j, j < fstIdx l k → (nk l j).same ≠ (nk l k).same := by
  cases hj : fstAt l k (nk l k).same with
  | none =>
    rw [fstIdx_none h hj]
    exact ⟨rfl, fstAt_none hj⟩
  | some j =>
    rw [fstIdx_some h hj]
    refine ⟨(fstAt_some hj).2, fun q hq e => ?_⟩
    unfold fstAt at hj
    have := (List.find?_range_eq_some.1 hj).2.2 q hq
    simp [e] at this
theorem fstIdx_eq {l : List Nod} {q k : Nat} : fstIdx l q = fstIdx l k ↔ (q = k ∨ ((nk l k).same ≠ 0 ∧ (nk l q).same = (nk l k).same)) := by
  by_cases hk : (nk l k).same = 0
  · rw [fstIdx_zero hk]
    by_cases hq : (nk l q).same = 0
    · rw [fstIdx_zero hq]; simp [hk]
    · constructor
      · intro e
        have := (fstIdx_same hq).1
        rw [e, hk] at this
        exact absurd this.symm hq
      · rintro (e | ⟨e, _⟩)
        · rw [e] at hq; exact absurd hk hq
        · exact absurd hk e
  · by_cases hq : (nk l q).same = 0
    · rw [fstIdx_zero hq]
      constructor
      · intro e
        have := (fstIdx_same hk).1
        rw [← e, hq] at this
        exact absurd this.symm hk
      · rintro (e | ⟨_, e⟩)
        · rw [e] at hq; exact absurd hq hk
        · rw [hq] at e; exact absurd e.symm hk
    · obtain ⟨a, b⟩ := fstIdx_same hk
      obtain ⟨c, d⟩ := fstIdx_same hq
      constructor
      · intro e
        rw [e, a] at c
        exact .inr ⟨hk, c.symm⟩
      · intro e
        have he : (nk l q).same = (nk l k).same := by
          rcases e with e | ⟨_, e⟩
          · rw [e]
          · exact e
        rcases Nat.lt_trichotomy (fstIdx l q) (fstIdx l k) with h | h | h
        · exact absurd (c.trans he) (b _ h)
        · exact h
        · exact absurd (a.trans he.symm) (d _ h)
noncomputable def linkFirsts (l : List Nod) : List Int × Int := if ¬ treeFault l = 0 then ([], treeFault l) else (firstsL l l.length, 0)
/-- how many nodes of the first k have the first place f -/
noncomputable def manyN (l : List Nod) (k f : Nat) : Nat := ((List.range k).filter fun i => decide (fstIdx l i = f)).length
noncomputable def namesN (l : List Nod) (k : Nat) : List Int := (List.range k).map fun i => (manyN l l.length (fstIdx l i) : Int)
noncomputable def linkNames (l : List Nod) : List Int × Int := if ¬ treeFault l = 0 then ([], treeFault l) else (namesN l l.length, 0)
theorem manyN_succ (l : List Nod) (k f : Nat) : manyN l (k + 1) f = manyN l k f + (if fstIdx l k = f then 1 else 0) := by
  unfold manyN
  rw [List.range_succ, List.filter_append, List.length_append]
  by_cases h : fstIdx l k = f <;> simp [h]
end Go.Creel
/-
  Members of a tree: plain words and laws.
-/
namespace Go.Creel
set_option linter.unusedVariables false
set_option linter.unusedSimpArgs false
open Go.RowKit
theorem filtered_fault {l : List Nod} {r : List Rul} (h : treeFault l = 0) : treeFault (l.filter (keptB r)) = 0 := by
  refine treeP_iff.2 ((treeP_iff.1 h).filter fun x y hx _ hk he hu => ?_)
  unfold keptB at hk ⊢
  have hp := nodFault_pos ((treeP_iff.1 h).nod x hx)
  rw [allTk_more hp, Bool.and_eq_true] at hk
  rw [he]; exact hk.2
/-- what filter.Run answers, where nothing is wrong, is right -/
theorem filtered_right {l m : List Nod} {r : List Rul} (h : (filtered l r).2 = 0) (hm : m.map Nod.bare = (filtered l r).1.map Nod.bare) : treeFault m = 0 := by
  by_cases hE : treeFault l = 0
  · by_cases hR : rulesFault r = 0
    · rw [filtered_ok hE hR] at hm
      exact treeFault_bare hm.symm (filtered_fault hE)
    · rw [filtered_rules hE hR] at h; exact absurd h hR
  · rw [filtered_bad hE] at h; exact absurd h hE
/-- node n as a member -/
def entOf (n : Nod) : Ent := ⟨n.path, n.kind, n.target, n.mt, n.da, n.dcap, n.data⟩
/-- node n as a link to what has this path -/
def entLink (n : Nod) (p : ByteArray) : Ent := ⟨n.path, 4, p, n.mt, none, 0, []⟩
noncomputable def planE (l : List Nod) (i : Nat) : Ent := if fstIdx l i < i then entLink (nk l i) (nk l (fstIdx l i)).path else entOf (nk l i)
theorem planE_link {l : List Nod} {i : Nat} (h : fstIdx l i < i) : planE l i = entLink (nk l i) (nk l (fstIdx l i)).path := by unfold planE; rw [if_pos h]
theorem planE_own {l : List Nod} {i : Nat} (h : ¬ fstIdx l i < i) : planE l i = entOf (nk l i) := by unfold planE; rw [if_neg h]
noncomputable def planL (l : List Nod) (k : Nat) : List Ent := (List.range k).map (planE l)
theorem planL_zero (l : List Nod) : planL l 0 = [] := rfl
theorem planL_succ (l : List Nod) (k : Nat) : planL l (k + 1) = planL l k ++ [planE l k] := by unfold planL; rw [List.range_succ, List.map_append]; rfl
theorem planL_len (l : List Nod) (k : Nat) : (planL l k).length = k := by unfold planL; simp
noncomputable def planned (l : List Nod) (r : List Rul) : List Ent × Int := if (filtered l r).2 = 0 then (planL (filtered l r).1 (filtered l r).1.length, 0) else ([], (filtered l r).2)
theorem planned_ok {l : List Nod} {r : List Rul} (h : (filtered l r).2 = 0) : planned l r = (planL (filtered l r).1 (filtered l r).1.length, 0) := by unfold planned; rw [if_pos h]
theorem planned_bad {l : List Nod} {r : List Rul} (h : ¬ (filtered l r).2 = 0) : planned l r = ([], (filtered l r).2) := by unfold planned; rw [if_neg h]
theorem bare_at {l m : List Nod} (h : l.map Nod.bare = m.map Nod.bare) (k : Nat) : (nk l k).bare = (nk m k).bare := by
  have hl : l.length = m.length := by simpa using congrArg List.length h
  by_cases hk : k < l.length
  · exact bare_nk h hk
  · unfold nk
    rw [List.getD_eq_getElem?_getD, List.getD_eq_getElem?_getD, List.getElem?_eq_none (by omega), List.getElem?_eq_none (by omega)]
theorem fstIdx_bare {l m : List Nod} (h : l.map Nod.bare = m.map Nod.bare) (i : Nat) : fstIdx l i = fstIdx m i := by
  have hs : ∀ k, (nk l k).same = (nk m k).same := fun k => (bare_parts (bare_at h k)).2.2.1
  have hf : ∀ k s, fstAt l k s = fstAt m k s := fun k s => by
    unfold fstAt
    congr 1
    funext j
    rw [hs j]
  unfold fstIdx
  rw [hs i, hf]
theorem planE_bare {l m : List Nod} (h : l.map Nod.bare = m.map Nod.bare) (i : Nat) : (planE l i).bare = (planE m i).bare := by
  obtain ⟨h1, h2, h3, h4, h5, h6⟩ := bare_parts (bare_at h i)
  obtain ⟨g1, _⟩ := bare_parts (bare_at h (fstIdx m i))
  by_cases hi : fstIdx m i < i
  · rw [planE_link (l := l) (by rw [fstIdx_bare h]; exact hi), planE_link hi, fstIdx_bare h]
    simp only [entLink, Ent.bare, h1, h5, g1]
  · rw [planE_own (l := l) (by rw [fstIdx_bare h]; exact hi), planE_own hi]
    simp only [entOf, Ent.bare, h1, h2, h4, h5, h6]
theorem planL_bare {l m : List Nod} (h : l.map Nod.bare = m.map Nod.bare) : (planL l l.length).map Ent.bare = (planL m m.length).map Ent.bare := by
  have hl : l.length = m.length := by simpa using congrArg List.length h
  unfold planL
  rw [hl, List.map_map, List.map_map]
  refine List.map_congr_left fun i _ => planE_bare h i
theorem planned_len (l : List Nod) (r : List Rul) : (planned l r).1.length ≤ maxLen := by
  by_cases h : (filtered l r).2 = 0
  · rw [planned_ok h, planL_len]; exact filtered_len l r
  · rw [planned_bad h]; unfold maxLen; simp
/-- the walk down from node i: the first node behind place j that is the same file -/
def LinkDown (l : List Nod) (i j : Nat) (x : Ent) : Prop := j ≤ i ∧ ((x = entOf (nk l i) ∧ ∀ k, j ≤ k → k < i → ¬ (0 < (nk l i).same ∧ (nk l k).same = (nk l i).same)) ∨
  (∃ k, j ≤ k ∧ k < i ∧ (0 < (nk l i).same ∧ (nk l k).same = (nk l i).same) ∧ (∀ q, j ≤ q → q < k → ¬ (0 < (nk l i).same ∧ (nk l q).same = (nk l i).same)) ∧ x = entLink (nk l i) (nk l k).path))
theorem LinkDown.start (l : List Nod) (i : Nat) : LinkDown l i i (entOf (nk l i)) := ⟨Nat.le_refl _, .inl ⟨rfl, fun k h1 h2 => by omega⟩⟩
theorem LinkDown.no {l : List Nod} {i j : Nat} {x : Ent} (h : LinkDown l i (j + 1) x) (hn : ¬ (0 < (nk l i).same ∧ (nk l j).same = (nk l i).same)) : LinkDown l i j x := by
  refine ⟨by have := h.1; omega, ?_⟩
  rcases h.2 with ⟨h1, h2⟩ | ⟨k, h1, h2, h3, h4, h5⟩
  · refine .inl ⟨h1, fun k hk hi => ?_⟩
    by_cases e : k = j
    · rw [e]; exact hn
    · exact h2 k (by omega) hi
  · refine .inr ⟨k, by omega, h2, h3, fun q hq hk => ?_, h5⟩
    by_cases e : q = j
    · rw [e]; exact hn
    · exact h4 q (by omega) hk
theorem LinkDown.yes {l : List Nod} {i j : Nat} {x : Ent} (h : LinkDown l i (j + 1) x) (hy : 0 < (nk l i).same ∧ (nk l j).same = (nk l i).same) : LinkDown l i j (entLink (nk l i) (nk l j).path) :=
  ⟨by have := h.1; omega, .inr ⟨j, Nat.le_refl _, by have := h.1; omega, hy, fun q h1 h2 => by omega, rfl⟩⟩
theorem LinkDown.done {l : List Nod} {i : Nat} {x : Ent} (hs : 0 ≤ (nk l i).same) (h : LinkDown l i 0 x) : x = planE l i := by
  rcases h.2 with ⟨h1, h2⟩ | ⟨k, _, h2, h3, h4, h5⟩
  · rw [h1]
    by_cases h0 : (nk l i).same = 0
    · rw [planE_own (by rw [fstIdx_zero h0]; omega)]
    · rw [planE_own]
      intro hlt
      exact h2 _ (Nat.zero_le _) hlt ⟨by omega, (fstIdx_same h0).1⟩
  · have h0 : (nk l i).same ≠ 0 := by omega
    obtain ⟨g1, g2⟩ := fstIdx_same h0
    have e : fstIdx l i = k := by
      rcases Nat.lt_trichotomy (fstIdx l i) k with e | e | e
      · exact absurd ⟨h3.1, g1⟩ (h4 _ (Nat.zero_le _) e)
      · exact e
      · exact absurd h3.2 (g2 k e)
    rw [h5, planE_link (by omega), e]
end Go.Creel
/-
  Slices of ints of the call's own; two of them compared.
-/
namespace Go.Creel
set_option linter.unusedVariables false
open Go.RowKit
/-- A slice of ints of the call's own, nil or not. -/
def OwnIs (t : TypeId) (w : World) (B : Nat) (v : Value) (l : List Int) : Prop := w.ownsRow B t 1 v l.length (l.map (Value.int .i64))
def pieceI (l : List Int) (k : Nat) : Int := l.getD k 0
theorem pieceI_eq {l : List Int} {k : Nat} (h : k < l.length) : pieceI l k = l[k] := by simp [pieceI, List.getD_eq_getElem?_getD, List.getElem?_eq_getElem h]
theorem OwnIs.cell {t : TypeId} {w : World} {B g cap : Nat} {l : List Int} (h : OwnIs t w B (.slice (some ⟨g, 0, none⟩) l.length cap) l) {j : Nat} (hj : j < l.length) : w.cell? ⟨g, j, none⟩ = some (.int .i64 (pieceI l j)) := by
  rw [World.ownsRow.cellAt h j (by omega), pieceI_eq hj]
  simp [List.getElem?_eq_getElem hj]
theorem OwnIs.form {t : TypeId} {w : World} {B : Nat} {v : Value} {l : List Int} (h : OwnIs t w B v l) : (v = .slice none 0 0 ∧ l = []) ∨ ∃ g cap, v = .slice (some ⟨g, 0, none⟩) l.length cap ∧ B ≤ g ∧ g < w.heap.size ∧ l.length ≤ cap ∧ cap ≤ maxLen := by
  rcases h.2 with ⟨rfl, h0⟩ | ⟨g, cap, cur, rfl, hbg, hg, hnc, hcm, hcs, htake⟩
  · exact .inl ⟨rfl, List.eq_nil_of_length_eq_zero h0⟩
  · refine .inr ⟨g, cap, rfl, hbg, ?_, hnc, hcm⟩
    rcases Nat.lt_or_ge g w.heap.size with h' | h'
    · exact h'
    · rw [Array.getElem?_eq_none h'] at hg; cases hg
theorem OwnIs.below {t : TypeId} {w w' : World} {B : Nat} {v : Value} {l : List Int} (h : OwnIs t w B v l) (hb : Below w.heap.size w w') : OwnIs t w' B v l := by
  refine ⟨h.1, ?_⟩
  rcases h.2 with h0 | ⟨g, cap, cur, hv, hbg, hg, r⟩
  · exact .inl h0
  · refine .inr ⟨g, cap, cur, hv, hbg, ?_, r⟩
    rw [hb.block g]
    · exact hg
    · rcases Nat.lt_or_ge g w.heap.size with h' | h'
      · exact h'
      · rw [Array.getElem?_eq_none h'] at hg; cases hg
theorem OwnIs.app {t : TypeId} {w' : World} {B : Nat} {v' : Value} {l m : List Int} (h : w'.ownsRow B t 1 v' (l.length + m.length) (l.map (Value.int .i64) ++ m.map (Value.int .i64))) : OwnIs t w' B v' (l ++ m) := by
  unfold OwnIs
  rw [List.length_append, List.map_append]
  exact h
theorem OwnIs.mono {t : TypeId} {w : World} {B B' : Nat} {v : Value} {l : List Int} (h : OwnIs t w B v l) (hb : B' ≤ B) : OwnIs t w B' v l := by
  rcases h.2 with ⟨rfl, h0⟩ | ⟨g, cap, cur, rfl, hbg, hg, hnc, hcm, hcs, htake⟩
  · exact ⟨h.1, .inl ⟨rfl, h0⟩⟩
  · exact ⟨h.1, .inr ⟨g, cap, cur, rfl, Nat.le_trans hb hbg, hg, hnc, hcm, hcs, htake⟩⟩
/-- a new slice of ints and a number -/
def RetIE (t : TypeId) (w : World) (p : List Int × Int) (e : Ending) (w' : World) : Prop := ∃ v, e = .returned (.tuple #[v, .int .i64 p.2]) ∧ OwnIs t w' w.heap.size v p.1 ∧ Below w.heap.size w w'
end Go.Creel
namespace Go.Proofs.YtecmcgedeaemgaaDoor
set_option linter.unusedVariables false
open Go.Creel Go.RowKit
theorem info_int : (Tryd.prog.info? 3).map (fun i => (i.zero, i.size, i.bytes)) = some (some (.int .i64 0), 1, 8) := by kernel_rfl
theorem slice_formI {t : TypeId} {w : World} {B : Nat} {v : Value} {l : List Int} (h : OwnIs t w B v l) : ∃ p cap, v = .slice p l.length cap ∧ (0 < l.length → ∃ g, p = some ⟨g, 0, none⟩) := by
  rcases h.form with ⟨rfl, rfl⟩ | ⟨g, cap, rfl, hgB, hgw, hcap, hcapm⟩
  · exact ⟨none, 0, rfl, fun h => absurd h (by simp)⟩
  · exact ⟨_, _, rfl, fun _ => ⟨g, rfl⟩⟩
end Go.Proofs.YtecmcgedeaemgaaDoor
/-
  (*link.table).meet.
-/
namespace Go.Proofs.YtecmcgedeaemgaaDoor
set_option linter.unusedVariables false
set_option linter.unusedSimpArgs false
open Go.Creel Go.RowKit
set_option maxRecDepth 100000 in
theorem Meet_zero (tb : Nat) (x : Nod) (n : Int) (w : World) (h0 : x.same = 0) :
    Calls Tryd.prog 128 #[.pointer (some ⟨tb, 0, none⟩), x.val, .int .i64 n] w fun e w' => e = .returned (.int .i64 n) ∧ Below w.heap.size w w' := by
  have HB := Lib.hid ((Below.refl w.heap.size w).alloc (Nat.le_refl _) (boxOf x))
  have hq : (x.same == 0) = true := by rw [h0]; rfl
  clear h0
  go_enter Tryd.func128, Tryd.ntmps128
  go_wp2
  go_ret
  exact ⟨rfl, HB.out⟩
set_option maxRecDepth 100000 in
theorem Meet_has (tb mb : Nat) (m : List (Int × Value)) (x : Nod) (n j : Int) (w : World) (h0 : x.same ≠ 0) (hc : w.cell? ⟨tb, 0, none⟩ = some (.map (some mb))) (hm : MapIs (fun n : Int => Value.int .i64 n) w mb m) (ha : assoc x.same m = some (.int .i64 j)) :
    Calls Tryd.prog 128 #[.pointer (some ⟨tb, 0, none⟩), x.val, .int .i64 n] w fun e w' => e = .returned (.int .i64 j) ∧ Below w.heap.size w w' := by
  have hb := (Below.refl w.heap.size w).alloc (Nat.le_refl _) (boxOf x)
  have HB := Lib.hid hb
  have htb := World.block_lt_of_cell? w _ hc
  have hct := (hb.cell (p := ⟨tb, 0, none⟩) htb).trans hc
  have hlook := fun q : Nat => ((hm.below hb hm.lt).below (below_draws _ _ q) (hm.below hb hm.lt).lt).look_some keyOn_int (t := 140) (k := 3) (e := 3) Tryd.underlying140 Tryd.underlying3 (a := x.same) (v := .int .i64 j) ha true
  simp only [if_true] at hlook
  have hq : (x.same == 0) = false := by rw [beq_eq_false_iff_ne]; exact h0
  clear h0 hm ha hb hc
  go_enter Tryd.func128, Tryd.ntmps128
  go_wp2
  go_quiet (fail)
  go_wp2
  go_ret
  exact ⟨rfl, HB.out.trans (below_draws _ _ _)⟩
set_option maxRecDepth 100000 in
theorem Meet_new (tb mb : Nat) (m : List (Int × Value)) (x : Nod) (n : Int) (w : World) (h0 : x.same ≠ 0) (hc : w.cell? ⟨tb, 0, none⟩ = some (.map (some mb))) (hm : MapIs (fun n : Int => Value.int .i64 n) w mb m) (ha : assoc x.same m = none) :
    Calls Tryd.prog 128 #[.pointer (some ⟨tb, 0, none⟩), x.val, .int .i64 n] w fun e w' => e = .returned (.int .i64 n) ∧ MapIs (fun n : Int => Value.int .i64 n) w' mb (assocPut x.same (.int .i64 n) m) ∧ w.grownBy w' (some mb) := by
  have hb := (Below.refl w.heap.size w).alloc (Nat.le_refl _) (boxOf x)
  have HB := Lib.hid hb
  have htb := World.block_lt_of_cell? w _ hc
  have hct := (hb.cell (p := ⟨tb, 0, none⟩) htb).trans hc
  have HM := Lib.hid (fun q : Nat => ((hm.below hb hm.lt).below (below_draws _ _ q) (hm.below hb hm.lt).lt))
  have hlook := fun q : Nat => (HM.out q).look_none keyOn_int (t := 140) (k := 3) (e := 3) Tryd.underlying140 Tryd.underlying3 (a := x.same) ha (Tryd.zeroValue3 _) true
  simp only [if_true] at hlook
  have hq : (x.same == 0) = false := by rw [beq_eq_false_iff_ne]; exact h0
  clear h0 hm ha hb hc
  go_enter Tryd.func128, Tryd.ntmps128
  go_wp2
  go_quiet (fail)
  go_wp2
  clear hlook
  have hct5 := ((below_draws (w.alloc (boxOf x)).heap.size (w.alloc (boxOf x)) nq).cell (p := ⟨tb, 0, none⟩) (Nat.lt_of_lt_of_le htb HB.out.size)).trans hct
  obtain ⟨_, _, b2, _⟩ := ((nodAt_box w x 48).below (below_draws _ _ nq)).zero
  have HB5 := Lib.hid (HB.out.trans (below_draws _ _ nq))
  have HM5 := Lib.hid (HM.out nq)
  clear hct HM HB
  generalize (w.alloc (boxOf x)).drewN nq = w5 at *
  generalize w.heap.size = bx at b2
  obtain ⟨wp, hput, hmp, hgr⟩ := MapIs.put (HM5.out.below (Below.refl _ _).drew HM5.out.lt) keyOn_int (t := 140) (k := 3) (e := 3) Tryd.underlying140 Tryd.underlying3 x.same (.int .i64 n)
  have HMP := Lib.hid hmp
  have HGR := Lib.hid (grown_below HB5.out.drew hgr)
  clear hmp hgr
  go_still_tail 7, (by kernel_rfl)
  go_wp2
  go_ret
  exact ⟨rfl, HMP.out, HGR.out⟩
end Go.Proofs.YtecmcgedeaemgaaDoor
