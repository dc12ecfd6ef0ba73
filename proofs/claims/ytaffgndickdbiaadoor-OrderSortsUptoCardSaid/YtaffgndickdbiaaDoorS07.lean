/-
  Texts: SymAB, SymC.
-/
import Derived.Test.YtaffgndickdbiaaDoorS06
set_option linter.unusedVariables false
set_option linter.unusedSimpArgs false
set_option linter.unusedSectionVars false
namespace Go.Creel
open Go.RowKit
theorem halfS_lt {i j : Nat} (h : i < j) : i ≤ (i + j) / 2 ∧ (i + j) / 2 < j := by omega
def SymFA (d : List Nod) (a c : Nat) : Prop := ordN (nk d c) (nk d a) < 0
def SymFB (d : List Nod) (m c : Nat) : Prop := ¬ ordN (nk d m) (nk d c) < 0
theorem symA_mono {p r q : List Nod} {y : Nod} {a m b : Nat} (ha : a = p.length) (hm : m = p.length + 1) (hb : b = p.length + 1 + r.length) (hr : r.Pairwise PathLe) {k h : Nat} (h1 : m ≤ k) (h2 : k ≤ h) (h3 : h < b) (hf : SymFA (p ++ ([y] ++ (r ++ q))) a h) : SymFA (p ++ ([y] ++ (r ++ q))) a k := by
  have l1 : ([y] : List Nod).length = 1 := rfl
  unfold SymFA at hf ⊢
  rw [nk_right (c := h) (by omega) (by omega)] at hf
  rw [nk_right (c := k) (by omega) (by omega)]
  exact lt_of_le_lt (nk_sorted hr (by omega) (by omega)) hf
theorem symA_fin {p r q : List Nod} {y : Nod} {a m b i : Nat} (ha : a = p.length) (hm : m = p.length + 1) (hb : b = p.length + 1 + r.length) (hr : r.Pairwise PathLe) (C : Cut2 (SymFA (p ++ ([y] ++ (r ++ q))) a) m b i i) :
    turnL (p ++ ([y] ++ (r ++ q))) a (a + 1) i = p ++ (isort ([y] ++ r) ++ q) := by
  obtain ⟨c1, _, c2, c3, c4⟩ := C
  have l1 : ([y] : List Nod).length = 1 := rfl
  have hy : nk (p ++ ([y] ++ (r ++ q))) a = y := by rw [nk_left (by omega) (by omega), show a - p.length = 0 by omega]; rfl
  have e := symA_done (p := p) (r := r) (q := q) (y := y) (s := i - m) hr (by omega) (fun k hk => by
    have f := c3 (m + k) (by omega) (by omega)
    unfold SymFA at f
    rw [hy, nk_right (by omega) (by omega), show m + k - (p.length + [y].length) = k by omega] at f
    exact f) (fun k hk hk2 => by
    have f := c4 (m + k) (by omega) (by omega)
    unfold SymFA at f
    rw [hy, nk_right (by omega) (by omega), show m + k - (p.length + [y].length) = k by omega] at f
    exact f)
  rw [← e, show p.length + (i - m) + 1 = i by omega, ha]
theorem symB_mono {p l q : List Nod} {y : Nod} {a m : Nat} (ha : a = p.length) (hm : m = p.length + l.length) (hl : l.Pairwise PathLe) {k h : Nat} (h1 : a ≤ k) (h2 : k ≤ h) (h3 : h < m) (hf : SymFB (p ++ (l ++ ([y] ++ q))) m h) : SymFB (p ++ (l ++ ([y] ++ q))) m k := by
  unfold SymFB at hf ⊢
  rw [ordN_lt0] at hf ⊢
  rw [nk_left (c := h) (by omega) (by omega)] at hf
  rw [nk_left (c := k) (by omega) (by omega)]
  have g : PathLe (nk l (h - p.length)) (nk (p ++ (l ++ ([y] ++ q))) m) := Classical.byContradiction hf
  exact fun e => e (ordN_le_trans (nk_sorted hl (by omega) (by omega)) g)
theorem symB_fin {p l q : List Nod} {y : Nod} {a m i : Nat} (ha : a = p.length) (hm : m = p.length + l.length) (hl : l.Pairwise PathLe) (C : Cut2 (SymFB (p ++ (l ++ ([y] ++ q))) m) a m i i) :
    turnL (p ++ (l ++ ([y] ++ q))) i m (m + 1) = p ++ (isort (l ++ [y]) ++ q) := by
  obtain ⟨c1, _, c2, c3, c4⟩ := C
  have l1 : ([y] : List Nod).length = 1 := rfl
  have hy : nk (p ++ (l ++ ([y] ++ q))) m = y := by rw [nk_right (by omega) (by omega), show m - (p.length + l.length) = 0 by omega]; rfl
  have e := symB_done (p := p) (l := l) (q := q) (y := y) (s := i - a) hl (by omega) (fun k hk => by
    have f := c3 (a + k) (by omega) (by omega)
    unfold SymFB at f
    rw [hy, nk_left (by omega) (by omega), show a + k - p.length = k by omega] at f
    exact f) (fun k hk hk2 => by
    have f := c4 (a + k) (by omega) (by omega)
    unfold SymFB at f
    rw [hy, nk_left (by omega) (by omega), show a + k - p.length = k by omega] at f
    exact Classical.byContradiction f)
  rw [← e, show p.length + (i - a) = i by omega, hm]
end Go.Creel
namespace Go.Proofs.YtaffgndickdbiaaDoor
open Go.Creel Go.RowKit
set_option maxRecDepth 100000 in
set_option maxHeartbeats 4000000 in
theorem SymA_any (W0 : World) (g cap n : Nat) (p r q : List Nod) (y : Nod) (w : World) (h : OwnNods 60 w W0.heap.size (.slice (some ⟨g, 0, none⟩) n cap) (p ++ ([y] ++ (r ++ q)))) (hm : (p ++ ([y] ++ (r ++ q))).length = n) (hn : n ≤ cap) (hc : cap ≤ maxLen) (hfew : n ≤ 8000000000) (hp : PathsOk (p ++ ([y] ++ (r ++ q)))) (hM : MaxOk W0) (hB : Below W0.heap.size W0 w) (hr : r.Pairwise PathLe) (a m b : Nat) (ha : a = p.length) (hmm : m = p.length + 1) (hb : b = p.length + 1 + r.length) :
    Calls Tryd.prog 109 #[(.slice (some ⟨g, 0, none⟩) n cap), .int .i64 a, .int .i64 m, .int .i64 b, (.func (.func 46) #[] #[])] w fun e w' => e = .returned (.tuple #[]) ∧ OwnNods 60 w' W0.heap.size (.slice (some ⟨g, 0, none⟩) n cap) (p ++ (isort ([y] ++ r) ++ q)) ∧ Below W0.heap.size W0 w' := by
  unfold maxLen at hc
  have hbn : b ≤ n := by rw [← hm]; simp only [List.length_append, List.length_cons, List.length_nil]; omega
  have hma : a + 1 ≤ m := by omega
  have hma2 : m ≤ a + 1 := by omega
  have hmb : m ≤ b := by omega
  have HMO := Lib.hid (fun k h h1 h2 h3 hf => symA_mono (p := p) (r := r) (q := q) (y := y) (a := a) (m := m) (b := b) (k := k) (h := h) ha hmm hb hr h1 h2 h3 hf)
  have HFI := Lib.hid (fun i C => symA_fin (p := p) (r := r) (q := q) (y := y) (a := a) (m := m) (b := b) (i := i) ha hmm hb hr C)
  have H := Lib.hid h
  have HB0 := Lib.hid hB
  have HM := Lib.hid hM
  have HPD := Lib.hid hp
  have hent := enter_of Tryd.func46 (by kernel_rfl) (by kernel_rfl)
  clear h hB hM hp hr ha hmm hb
  generalize p ++ (isort ([y] ++ r) ++ q) = res at *
  generalize p ++ ([y] ++ (r ++ q)) = d at *
  have hld := hm
  clear hm
  have hma1 : (m : Int) - (a : Int) = 1 := by omega
  go_enter Tryd.func109, Tryd.ntmps109
  go_wp2_with fail
  go_loopw [10, 11, 12] (fun vi vj _ wr => ∃ i j : Nat, vi = .int .i64 (i : Int) ∧ vj = .int .i64 (j : Int) ∧ Hid (Cut2 (SymFA d a) m b i j) ∧ Hid (OwnNods 60 wr W0.heap.size (.slice (some ⟨g, 0, none⟩) n cap) d) ∧ Hid (Below W0.heap.size W0 wr)) (fun vi vj _ _ => (intOf vj).toNat - (intOf vi).toNat)
  case atStart => exact ⟨m, b, rfl, rfl, Lib.hid (Cut2.start (by omega)), H, HB0⟩
  case round =>
    obtain ⟨i, j, rfl, rfl, HC, HO, HB⟩ := hrel
    have hi1 := HC.out.lo_le
    have hi2 := HC.out.le
    have hi3 := HC.out.le_hi
    by_cases hlt : i < j
    · obtain ⟨hh1, hh2⟩ := halfS_lt hlt
      go_upto_region 5 with fail
      rw [show ((i : Int) + (j : Int)) / 2 = (((i + j) / 2 : Nat) : Int) by omega]
      generalize (i + j) / 2 = h at *
      have hhn : h < n := by omega
      have hhi : (h : Int) < (n : Int) := by omega
      have hai : ((a : Nat) : Int) < (n : Int) := by omega
      have HCMP := Lib.hid (fun w hM => SortCmp_any (nk d h) (nk d a) w hM (HPD.out.at (by omega)) (HPD.out.at (by omega)))
      have HNX := Lib.hid (HO.out.nodAtN hld (k := h) (by omega))
      have HNY := Lib.hid (HO.out.nodAtN hld (k := a) (by omega))
      have HUP := Lib.hid (fun (hf : SymFA d a h) => HC.out.up hh1 hh2 (fun k h1 h2 h3 => HMO.out k h h1 h2 (by omega) h3) hf)
      have HDW := Lib.hid (fun (hf : ¬ SymFA d a h) => HC.out.down hh1 hh2 (fun k h1 h2 h3 => HMO.out h k (by omega) h1 h2 h3) hf)
      have HFE : Hid (SymFA d a h ↔ ordN (nk d h) (nk d a) < 0) := Lib.hid Iff.rfl
      generalize nk d h = X at *
      generalize nk d a = Y at *
      obtain ⟨x0, x1, x2, x3, x4, x5, x6, x7, x8, x9, x10, x11⟩ := HNX.out
      obtain ⟨y0, y1, y2, y3, y4, y5, y6, y7, y8, y9, y10, y11⟩ := HNY.out
      generalize ordN X Y = c at *
      go_still_tail 9, (by kernel_rfl)
      go_wp2_with fail
      refine (HCMP.out _ ((HM.out.below HB.out).below (Below.refl _ _).drew)).mono ?_
      rintro e wc ⟨rfl, hb⟩
      have HBC := Lib.hid ((Below.refl wr.heap.size wr).drew.trans hb)
      clear hb x0 x1 x2 x3 x4 x5 x6 x7 x8 x9 x10 x11 y0 y1 y2 y3 y4 y5 y6 y7 y8 y9 y10 y11
      have HO2 := Lib.hid (HO.out.below HBC.out)
      have HB2 := Lib.hid (HB.out.trans (HBC.out.mono HB.out.size))
      by_cases hc0 : c < 0
      · have HX := Lib.hid (HUP.out (HFE.out.2 hc0))
        clear HUP HDW HFE
        go_wp2
        go_roundw
        case rel => exact ⟨h + 1, j, by go_num, rfl, HX, HO2, HB2⟩
        case measure => simp [intOf]; omega
      · have HX := Lib.hid (HDW.out (fun hf => hc0 (HFE.out.1 hf)))
        have hcd : decide (c < 0) = false := decide_eq_false hc0
        have hcz : 0 ≤ c := by omega
        clear HUP HDW HFE
        go_wp2
        go_roundw
        case rel => exact ⟨i, h, rfl, rfl, HX, HO2, HB2⟩
        case measure => simp [intOf]; omega
    · obtain rfl : i = j := by omega
      have HRES := Lib.hid (HFI.out i HC.out)
      have HTU := Lib.hid (fun k (h1 : a ≤ k) (h2 : k + 1 < i) => turn_up (l := d) (a := a) (k := k) h1 (by omega))
      have HLT := Lib.hid (fun k => (turnL_len d a (a + 1) k).trans hld)
      clear HMO HFI HPD
      obtain ⟨i1, hi0⟩ : ∃ i1, i = i1 + 1 := ⟨i - 1, by omega⟩
      have hii : (i : Int) - 1 = (i1 : Int) := by omega
      go_wp2_with fail
      go_loopw [13] (fun vk wx => ∃ k : Nat, vk = .int .i64 (k : Int) ∧ a ≤ k ∧ k ≤ i1 ∧ Hid (OwnNods 60 wx W0.heap.size (.slice (some ⟨g, 0, none⟩) n cap) (turnL d a (a + 1) (k + 1))) ∧ Hid (Below W0.heap.size W0 wx)) (fun vk _ => i - (intOf vk).toNat)
      case atStart => exact ⟨a, rfl, by omega, by omega, Lib.hid (by rw [turnL_zero]; exact HO.out), HB⟩
      case round =>
        obtain ⟨k, rfl, hk1, hk2, HO1, HB1⟩ := hrel
        by_cases hlk : k < i1
        · have HSW := Lib.hid (HO1.out.swap (HLT.out _) (i := k) (j := k + 1) (by omega) (by omega) HB1.out)
          rw [HTU.out k hk1 (by omega)] at HSW
          have hl := HLT.out (k + 1)
          generalize turnL d a (a + 1) (k + 1) = s at *
          generalize hs1 : turnL d a (a + 1) (k + 2) = s1 at *
          have HS1 := Lib.hid hs1
          clear hs1
          obtain ⟨kk, hkk0⟩ : ∃ kk, k + 1 = kk := ⟨_, rfl⟩
          rw [hkk0] at HSW
          have hkk : (k : Int) + 1 = (kk : Int) := by omega
          obtain ⟨x0, x1, x2, x3, x4, x5, x6, x7, x8, x9, x10, x11⟩ := HO1.out.nodAtN hl (k := k) (by omega)
          obtain ⟨y0, y1, y2, y3, y4, y5, y6, y7, y8, y9, y10, y11⟩ := HO1.out.nodAtN hl (k := kk) (by omega)
          generalize nk s k = X at *
          generalize nk s kk = Y at *
          have xf0 := HO1.out.frozenAtN hl (k * 12)
          have xf1 := HO1.out.frozenAtN hl (k * 12 + 1)
          have xf2 := HO1.out.frozenAtN hl (k * 12 + 2)
          have xf3 := HO1.out.frozenAtN hl (k * 12 + 3)
          have xf4 := HO1.out.frozenAtN hl (k * 12 + 4)
          have xf5 := HO1.out.frozenAtN hl (k * 12 + 5)
          have xf6 := HO1.out.frozenAtN hl (k * 12 + 6)
          have xf7 := HO1.out.frozenAtN hl (k * 12 + 7)
          have xf8 := HO1.out.frozenAtN hl (k * 12 + 8)
          have xf9 := HO1.out.frozenAtN hl (k * 12 + 9)
          have xf10 := HO1.out.frozenAtN hl (k * 12 + 10)
          have xf11 := HO1.out.frozenAtN hl (k * 12 + 11)
          have yf0 := HO1.out.frozenAtN hl (kk * 12)
          have yf1 := HO1.out.frozenAtN hl (kk * 12 + 1)
          have yf2 := HO1.out.frozenAtN hl (kk * 12 + 2)
          have yf3 := HO1.out.frozenAtN hl (kk * 12 + 3)
          have yf4 := HO1.out.frozenAtN hl (kk * 12 + 4)
          have yf5 := HO1.out.frozenAtN hl (kk * 12 + 5)
          have yf6 := HO1.out.frozenAtN hl (kk * 12 + 6)
          have yf7 := HO1.out.frozenAtN hl (kk * 12 + 7)
          have yf8 := HO1.out.frozenAtN hl (kk * 12 + 8)
          have yf9 := HO1.out.frozenAtN hl (kk * 12 + 9)
          have yf10 := HO1.out.frozenAtN hl (kk * 12 + 10)
          have yf11 := HO1.out.frozenAtN hl (kk * 12 + 11)
          have HKK := Lib.hid hkk0
          clear hkk0 HO1 HB1
          go_upto_region 11 with fail
          go_region
          generalize (setNode (setNode wr g (k * 12) Y) g (kk * 12) X).drew = W9 at *
          go_wp2
          go_roundw
          case rel =>
            have hkk0 := HKK.out
            exact ⟨k + 1, by go_num, by omega, by omega, Lib.hid (by rw [HS1.out]; exact HSW.out.1), Lib.hid HSW.out.2⟩
          case measure =>
            have hkk0 := HKK.out
            simp [intOf]; omega
        · obtain rfl : k = i1 := by omega
          rw [← hi0, HRES.out] at HO1
          go_wp2
          (try simp only [Exit.inBlock, Exit.then])
          refine bodyPost_ret (results_none rfl _ _ _) rfl ?_
          exact ⟨rfl, HO1.out, HB1.out⟩
set_option maxRecDepth 100000 in
set_option maxHeartbeats 4000000 in
theorem SymB_any (W0 : World) (g cap n : Nat) (p l q : List Nod) (y : Nod) (w : World) (h : OwnNods 60 w W0.heap.size (.slice (some ⟨g, 0, none⟩) n cap) (p ++ (l ++ ([y] ++ q)))) (hm : (p ++ (l ++ ([y] ++ q))).length = n) (hn : n ≤ cap) (hc : cap ≤ maxLen) (hfew : n ≤ 8000000000) (hp : PathsOk (p ++ (l ++ ([y] ++ q)))) (hM : MaxOk W0) (hB : Below W0.heap.size W0 w) (hl : l.Pairwise PathLe) (hl1 : l.length ≠ 1) (a m b : Nat) (ha : a = p.length) (hmm : m = p.length + l.length) (hb : b = p.length + l.length + 1) :
    Calls Tryd.prog 109 #[(.slice (some ⟨g, 0, none⟩) n cap), .int .i64 a, .int .i64 m, .int .i64 b, (.func (.func 46) #[] #[])] w fun e w' => e = .returned (.tuple #[]) ∧ OwnNods 60 w' W0.heap.size (.slice (some ⟨g, 0, none⟩) n cap) (p ++ (isort (l ++ [y]) ++ q)) ∧ Below W0.heap.size W0 w' := by
  unfold maxLen at hc
  have hbn : b ≤ n := by rw [← hm]; simp only [List.length_append, List.length_cons, List.length_nil]; omega
  have hbm : m + 1 ≤ b := by omega
  have hbm2 : b ≤ m + 1 := by omega
  have ham : a ≤ m := by omega
  have hma0 : m - a ≠ 1 := by omega
  have HMO := Lib.hid (fun k h h1 h2 h3 hf => symB_mono (p := p) (l := l) (q := q) (y := y) (a := a) (m := m) (k := k) (h := h) ha hmm hl h1 h2 h3 hf)
  have HFI := Lib.hid (fun i C => symB_fin (p := p) (l := l) (q := q) (y := y) (a := a) (m := m) (i := i) ha hmm hl C)
  have H := Lib.hid h
  have HB0 := Lib.hid hB
  have HM := Lib.hid hM
  have HPD := Lib.hid hp
  have hent := enter_of Tryd.func46 (by kernel_rfl) (by kernel_rfl)
  clear h hB hM hp hl ha hmm hb hl1
  generalize p ++ (isort (l ++ [y]) ++ q) = res at *
  generalize p ++ (l ++ ([y] ++ q)) = d at *
  have hld := hm
  clear hm
  have hma1 : (((m : Int) - (a : Int)) == 1) = false := by rw [beq_eq_false_iff_ne]; omega
  have hbm1 : (b : Int) - (m : Int) = 1 := by omega
  go_enter Tryd.func109, Tryd.ntmps109
  go_wp2_with fail
  go_loopw [14, 15, 16] (fun vi vj _ wr => ∃ i j : Nat, vi = .int .i64 (i : Int) ∧ vj = .int .i64 (j : Int) ∧ Hid (Cut2 (SymFB d m) a m i j) ∧ Hid (OwnNods 60 wr W0.heap.size (.slice (some ⟨g, 0, none⟩) n cap) d) ∧ Hid (Below W0.heap.size W0 wr)) (fun vi vj _ _ => (intOf vj).toNat - (intOf vi).toNat)
  case atStart => exact ⟨a, m, rfl, rfl, Lib.hid (Cut2.start (by omega)), H, HB0⟩
  case round =>
    obtain ⟨i, j, rfl, rfl, HC, HO, HB⟩ := hrel
    have hi1 := HC.out.lo_le
    have hi2 := HC.out.le
    have hi3 := HC.out.le_hi
    by_cases hlt : i < j
    · obtain ⟨hh1, hh2⟩ := halfS_lt hlt
      go_upto_region 17 with fail
      rw [show ((i : Int) + (j : Int)) / 2 = (((i + j) / 2 : Nat) : Int) by omega]
      generalize (i + j) / 2 = h at *
      have hhn : h < n := by omega
      have hhi : (h : Int) < (n : Int) := by omega
      have hai : ((m : Nat) : Int) < (n : Int) := by omega
      have HCMP := Lib.hid (fun w hM => SortCmp_any (nk d m) (nk d h) w hM (HPD.out.at (by omega)) (HPD.out.at (by omega)))
      have HNX := Lib.hid (HO.out.nodAtN hld (k := m) (by omega))
      have HNY := Lib.hid (HO.out.nodAtN hld (k := h) (by omega))
      have HUP := Lib.hid (fun (hf : SymFB d m h) => HC.out.up hh1 hh2 (fun k h1 h2 h3 => HMO.out k h h1 h2 (by omega) h3) hf)
      have HDW := Lib.hid (fun (hf : ¬ SymFB d m h) => HC.out.down hh1 hh2 (fun k h1 h2 h3 => HMO.out h k (by omega) h1 h2 h3) hf)
      have HFE : Hid (SymFB d m h ↔ ¬ ordN (nk d m) (nk d h) < 0) := Lib.hid Iff.rfl
      generalize nk d m = X at *
      generalize nk d h = Y at *
      obtain ⟨x0, x1, x2, x3, x4, x5, x6, x7, x8, x9, x10, x11⟩ := HNX.out
      obtain ⟨y0, y1, y2, y3, y4, y5, y6, y7, y8, y9, y10, y11⟩ := HNY.out
      generalize ordN X Y = c at *
      go_still_tail 9, (by kernel_rfl)
      go_wp2_with fail
      refine (HCMP.out _ ((HM.out.below HB.out).below (Below.refl _ _).drew)).mono ?_
      rintro e wc ⟨rfl, hb⟩
      have HBC := Lib.hid ((Below.refl wr.heap.size wr).drew.trans hb)
      clear hb x0 x1 x2 x3 x4 x5 x6 x7 x8 x9 x10 x11 y0 y1 y2 y3 y4 y5 y6 y7 y8 y9 y10 y11
      have HO2 := Lib.hid (HO.out.below HBC.out)
      have HB2 := Lib.hid (HB.out.trans (HBC.out.mono HB.out.size))
      by_cases hc0 : c < 0
      · have HX := Lib.hid (HDW.out (fun hf => absurd (HFE.out.1 hf) (by omega)))
        clear HUP HDW HFE
        go_wp2
        go_roundw
        case rel => exact ⟨i, h, rfl, rfl, HX, HO2, HB2⟩
        case measure => simp [intOf]; omega
      · have HX := Lib.hid (HUP.out (HFE.out.2 (by omega)))
        have hcd : decide (c < 0) = false := decide_eq_false hc0
        have hcz : 0 ≤ c := by omega
        clear HUP HDW HFE
        go_wp2
        go_roundw
        case rel => exact ⟨h + 1, j, by go_num, rfl, HX, HO2, HB2⟩
        case measure => simp [intOf]; omega
    · obtain rfl : i = j := by omega
      have HRES := Lib.hid (HFI.out i HC.out)
      have HTD := Lib.hid (fun k (h0 : 0 < k) (h1 : k ≤ m) => turn_down (l := d) (m := m) (k := k) h0 h1 (by omega))
      have HLT := Lib.hid (fun k => (turnL_len d k m (m + 1)).trans hld)
      clear HMO HFI HPD
      go_wp2_with fail
      go_loopw [17] (fun vk wx => ∃ k : Nat, vk = .int .i64 (k : Int) ∧ i ≤ k ∧ k ≤ m ∧ Hid (OwnNods 60 wx W0.heap.size (.slice (some ⟨g, 0, none⟩) n cap) (turnL d k m (m + 1))) ∧ Hid (Below W0.heap.size W0 wx)) (fun vk _ => (intOf vk).toNat)
      case atStart => exact ⟨m, rfl, by omega, by omega, Lib.hid (by rw [turnL_none _ _ _ (by omega)]; exact HO.out), HB⟩
      case round =>
        obtain ⟨k, rfl, hk1, hk2, HO1, HB1⟩ := hrel
        by_cases hlk : i < k
        · have HSW := Lib.hid (HO1.out.swap (HLT.out _) (i := k) (j := k - 1) (by omega) (by omega) HB1.out)
          rw [HTD.out k (by omega) hk2] at HSW
          have hl := HLT.out k
          generalize turnL d k m (m + 1) = s at *
          generalize hs1 : turnL d (k - 1) m (m + 1) = s1 at *
          have HS1 := Lib.hid hs1
          clear hs1
          obtain ⟨kk, hkk0⟩ : ∃ kk, k - 1 = kk := ⟨_, rfl⟩
          rw [hkk0] at HSW
          have hkk : (k : Int) - 1 = (kk : Int) := by omega
          obtain ⟨x0, x1, x2, x3, x4, x5, x6, x7, x8, x9, x10, x11⟩ := HO1.out.nodAtN hl (k := k) (by omega)
          obtain ⟨y0, y1, y2, y3, y4, y5, y6, y7, y8, y9, y10, y11⟩ := HO1.out.nodAtN hl (k := kk) (by omega)
          generalize nk s k = X at *
          generalize nk s kk = Y at *
          have xf0 := HO1.out.frozenAtN hl (k * 12)
          have xf1 := HO1.out.frozenAtN hl (k * 12 + 1)
          have xf2 := HO1.out.frozenAtN hl (k * 12 + 2)
          have xf3 := HO1.out.frozenAtN hl (k * 12 + 3)
          have xf4 := HO1.out.frozenAtN hl (k * 12 + 4)
          have xf5 := HO1.out.frozenAtN hl (k * 12 + 5)
          have xf6 := HO1.out.frozenAtN hl (k * 12 + 6)
          have xf7 := HO1.out.frozenAtN hl (k * 12 + 7)
          have xf8 := HO1.out.frozenAtN hl (k * 12 + 8)
          have xf9 := HO1.out.frozenAtN hl (k * 12 + 9)
          have xf10 := HO1.out.frozenAtN hl (k * 12 + 10)
          have xf11 := HO1.out.frozenAtN hl (k * 12 + 11)
          have yf0 := HO1.out.frozenAtN hl (kk * 12)
          have yf1 := HO1.out.frozenAtN hl (kk * 12 + 1)
          have yf2 := HO1.out.frozenAtN hl (kk * 12 + 2)
          have yf3 := HO1.out.frozenAtN hl (kk * 12 + 3)
          have yf4 := HO1.out.frozenAtN hl (kk * 12 + 4)
          have yf5 := HO1.out.frozenAtN hl (kk * 12 + 5)
          have yf6 := HO1.out.frozenAtN hl (kk * 12 + 6)
          have yf7 := HO1.out.frozenAtN hl (kk * 12 + 7)
          have yf8 := HO1.out.frozenAtN hl (kk * 12 + 8)
          have yf9 := HO1.out.frozenAtN hl (kk * 12 + 9)
          have yf10 := HO1.out.frozenAtN hl (kk * 12 + 10)
          have yf11 := HO1.out.frozenAtN hl (kk * 12 + 11)
          have HKK := Lib.hid hkk0
          clear hkk0 HO1 HB1
          go_upto_region 23 with fail
          go_region
          generalize (setNode (setNode wr g (k * 12) Y) g (kk * 12) X).drew = W9 at *
          go_wp2
          go_roundw
          case rel =>
            have hkk0 := HKK.out
            exact ⟨k - 1, by go_num, by omega, by omega, Lib.hid (by rw [HS1.out]; exact HSW.out.1), Lib.hid HSW.out.2⟩
          case measure =>
            have hkk0 := HKK.out
            simp [intOf]; omega
        · obtain rfl : k = i := by omega
          rw [HRES.out] at HO1
          go_wp2
          (try simp only [Exit.inBlock, Exit.then])
          refine bodyPost_ret (results_none rfl _ _ _) rfl ?_
          exact ⟨rfl, HO1.out, HB1.out⟩
end Go.Proofs.YtaffgndickdbiaaDoor
namespace Go.Creel
open Go.RowKit
theorem sorted_take {l : List Nod} (h : l.Pairwise PathLe) (k : Nat) : (l.take k).Pairwise PathLe := h.sublist (List.take_sublist k l)
theorem sorted_drop {l : List Nod} (h : l.Pairwise PathLe) (k : Nat) : (l.drop k).Pairwise PathLe := h.sublist (List.drop_sublist k l)
theorem isort_none {l r : List Nod} (h : l = [] ∨ r = []) (hl : l.Pairwise PathLe) (hr : r.Pairwise PathLe) : isort (l ++ r) = l ++ r := by
  rcases h with rfl | rfl
  · exact isort_id hr
  · rw [List.append_nil]; exact isort_id hl
theorem PathsOk.perm {l m : List Nod} (h : PathsOk l) (hm : ∀ x, x ∈ m → x ∈ l) : PathsOk m := fun x hx => h x (hm x hx)
abbrev SymSays (Calls1 : World → Nat → Nat → Nat → (Ending → World → Prop) → Prop) (t : TypeId) (W0 : World) (g cap n N : Nat) : Prop :=
  ∀ (p l r q : List Nod) (w : World), l.length + r.length ≤ N → OwnNods t w W0.heap.size (.slice (some ⟨g, 0, none⟩) n cap) (p ++ (l ++ (r ++ q))) → (p ++ (l ++ (r ++ q))).length = n → PathsOk (p ++ (l ++ (r ++ q))) → Below W0.heap.size W0 w →
    l.Pairwise PathLe → r.Pairwise PathLe → 0 < l.length → 0 < r.length → ∀ a m b : Nat, a = p.length → m = p.length + l.length → b = p.length + l.length + r.length →
    Calls1 w a m b fun e w' => e = .returned (.tuple #[]) ∧ OwnNods t w' W0.heap.size (.slice (some ⟨g, 0, none⟩) n cap) (p ++ (isort (l ++ r) ++ q)) ∧ Below W0.heap.size W0 w'
end Go.Creel
namespace Go.Proofs.YtaffgndickdbiaaDoor
open Go.Creel Go.RowKit
abbrev SymCall (g cap n : Nat) (w : World) (a m b : Nat) (Q : Ending → World → Prop) : Prop := Calls Tryd.prog 109 #[(.slice (some ⟨g, 0, none⟩) n cap), .int .i64 a, .int .i64 m, .int .i64 b, (.func (.func 46) #[] #[])] w Q
set_option maxRecDepth 100000 in
set_option maxHeartbeats 8000000 in
theorem SymC_any (W0 : World) (g cap n N : Nat) (IH : SymSays (SymCall g cap n) 60 W0 g cap n N) (p l r q : List Nod) (w : World) (hN : l.length + r.length ≤ N + 1) (h : OwnNods 60 w W0.heap.size (.slice (some ⟨g, 0, none⟩) n cap) (p ++ (l ++ (r ++ q)))) (hm : (p ++ (l ++ (r ++ q))).length = n) (hn : n ≤ cap) (hc : cap ≤ maxLen) (hfew : n ≤ 8000000000) (hp : PathsOk (p ++ (l ++ (r ++ q)))) (hM : MaxOk W0) (hB : Below W0.heap.size W0 w) (hl : l.Pairwise PathLe) (hr : r.Pairwise PathLe) (hl2 : 1 < l.length) (hr2 : 1 < r.length) (a m b : Nat) (ha : a = p.length) (hmm : m = p.length + l.length) (hb : b = p.length + l.length + r.length) :
    Calls Tryd.prog 109 #[(.slice (some ⟨g, 0, none⟩) n cap), .int .i64 a, .int .i64 m, .int .i64 b, (.func (.func 46) #[] #[])] w fun e w' => e = .returned (.tuple #[]) ∧ OwnNods 60 w' W0.heap.size (.slice (some ⟨g, 0, none⟩) n cap) (p ++ (isort (l ++ r) ++ q)) ∧ Below W0.heap.size W0 w' := by
  have hbn : b ≤ n := by rw [← hm]; simp only [List.length_append]; omega
  have ham : a + 1 < m := by omega
  have hmb : m + 1 < b := by omega
  have hbN : b ≤ a + (N + 1) := by omega
  obtain ⟨mid, hmid⟩ : ∃ mid, mid = (a + b) / 2 := ⟨_, rfl⟩
  have HGT := Lib.hid (symB_gt (a := a) (m := m) (b := b) (mid := mid) (by omega) (by omega) hmid)
  have HLE := Lib.hid (symB_le (a := a) (m := m) (b := b) (mid := mid) (by omega) (by omega) hmid)
  have HMO := Lib.hid (fun lo hi (B : SymB a m b mid lo hi) k h h1 h2 h3 hf => symF_mono (p := p) (l := l) (r := r) (q := q) ha hmm hb hl hr B (k := k) (h := h) h1 h2 h3 hf)
  have HCUT := Lib.hid (fun lo hi s (B : SymB a m b mid lo hi) C => symC_cut (p := p) (l := l) (r := r) (q := q) (s := s) ha hmm hb hl hr B C)
  have HTN := Lib.hid (fun s h1 h2 h3 h4 => symC_turn (p := p) (l := l) (r := r) (q := q) (a := a) (m := m) (mid := mid) (s := s) ha hmm h1 h2 h3 h4)
  have HROT := Lib.hid (fun (d : List Nod) (a c b : Nat) (w : World) h hm h1 h2 h3 hB => Rotate_any W0 g cap n d a c b (.func (.func 46) #[] #[]) w h hm hn hc h1 h2 h3 hB)
  have HIH := Lib.hid IH
  have HLR := Lib.hid (And.intro hl hr)
  have HLN := Lib.hid (And.intro ha (And.intro hmm hb))
  have HPP := Lib.hid hp
  have HLL := Lib.hid hm
  unfold maxLen at hc
  have H := Lib.hid h
  have HB0 := Lib.hid hB
  have HM := Lib.hid hM
  have hent := enter_of Tryd.func46 (by kernel_rfl) (by kernel_rfl)
  have hmd1 : 2 * mid ≤ a + b := by omega
  have hmd2 : a + b ≤ 2 * mid + 1 := by omega
  have hmdi : ((a : Int) + (b : Int)) / 2 = (mid : Int) := by omega
  clear h hB hM hp hl hr ha hmm hb hm IH hN hl2 hr2 hmid
  have hma1 : (((m : Int) - (a : Int)) == 1) = false := by rw [beq_eq_false_iff_ne]; omega
  have hbm1 : (((b : Int) - (m : Int)) == 1) = false := by rw [beq_eq_false_iff_ne]; omega
  go_enter Tryd.func109, Tryd.ntmps109
  go_upto_if 140 with fail
  generalize hkb : decide ((mid : Int) < (m : Int)) = kb at *
  have HKB := Lib.hid hkb
  clear hkb
  go_cut [20, 21] from 141 to 146 (fun u20 u21 wy => ∃ lo hi : Nat, u20 = .int .i64 (lo : Int) ∧ u21 = .int .i64 (hi : Int) ∧ Hid (SymB a m b mid lo hi) ∧ wy = w)
  case first =>
    cases kb with
    | true =>
      have hg : mid < m := by have := of_decide_eq_true HKB.out; omega
      go_wp2
      go_meet
      exact ⟨mid + m - b, mid, by go_num, rfl, Lib.hid (HGT.out hg), rfl⟩
    | false =>
      have hg : m ≤ mid := by have := of_decide_eq_false HKB.out; omega
      go_wp2
      go_meet
      exact ⟨a, m, rfl, rfl, Lib.hid (HLE.out hg), rfl⟩
  case rest =>
  obtain ⟨lo, hi, rfl, rfl, HSB, rfl⟩ := hcut
  obtain ⟨w, rfl⟩ : ∃ W : World, W = wc := ⟨_, rfl⟩
  obtain ⟨b1, b2, b3, b4, b5, _, _⟩ := HSB.out
  clear HGT HLE HKB
  have HMO := Lib.hid (fun k h h1 h2 h3 hf => HMO.out lo hi HSB.out k h h1 h2 h3 hf)
  have HCUT := Lib.hid (fun s C => HCUT.out lo hi s HSB.out C)
  have HISL := Lib.hid (isort_len (l ++ r))
  generalize hd : p ++ (l ++ (r ++ q)) = d at *
  have HD := Lib.hid hd
  clear hd
  have hld := HLL.out
  go_wp2_with fail
  go_loopw [20, 21, 23] (fun vi vj _ wr => ∃ i j : Nat, vi = .int .i64 (i : Int) ∧ vj = .int .i64 (j : Int) ∧ Hid (Cut2 (SymF d (mid + m)) lo hi i j) ∧ Hid (OwnNods 60 wr W0.heap.size (.slice (some ⟨g, 0, none⟩) n cap) d) ∧ Hid (Below W0.heap.size W0 wr)) (fun vi vj _ _ => (intOf vj).toNat - (intOf vi).toNat)
  case atStart => exact ⟨lo, hi, rfl, rfl, Lib.hid (Cut2.start (by omega)), H, HB0⟩
  case round =>
    obtain ⟨i, j, rfl, rfl, HC, HO, HB⟩ := hrel
    have hi1 := HC.out.lo_le
    have hi2 := HC.out.le
    have hi3 := HC.out.le_hi
    by_cases hlt : i < j
    · obtain ⟨hh1, hh2⟩ := halfS_lt hlt
      go_upto_region 35 with fail
      rw [show ((i : Int) + (j : Int)) / 2 = (((i + j) / 2 : Nat) : Int) by omega]
      generalize (i + j) / 2 = h at *
      obtain ⟨k, hk0⟩ : ∃ k, mid + m - 1 - h = k := ⟨_, rfl⟩
      have hkk : (mid : Int) + (m : Int) - 1 - (h : Int) = (k : Int) := by omega
      have hwk : IntKind.i64.wrap (k : Int) = (k : Int) := by rw [IntKind.wrap_i64]; omega
      have hhi : (h : Int) < (n : Int) := by omega
      have hki : (k : Int) < (n : Int) := by omega
      have HCMP := Lib.hid (fun w hM => SortCmp_any (nk d k) (nk d h) w hM (HPP.out.at (by omega)) (HPP.out.at (by omega)))
      have HNX := Lib.hid (HO.out.nodAtN hld (k := k) (by omega))
      have HNY := Lib.hid (HO.out.nodAtN hld (k := h) (by omega))
      have HUP := Lib.hid (fun (hf : SymF d (mid + m) h) => HC.out.up hh1 hh2 (fun k h1 h2 h3 => HMO.out k h h1 h2 (by omega) h3) hf)
      have HDW := Lib.hid (fun (hf : ¬ SymF d (mid + m) h) => HC.out.down hh1 hh2 (fun k h1 h2 h3 => HMO.out h k (by omega) h1 h2 h3) hf)
      have HFE : Hid (SymF d (mid + m) h ↔ ¬ ordN (nk d k) (nk d h) < 0) := Lib.hid (by unfold SymF; rw [hk0])
      clear hk0
      generalize nk d k = X at *
      generalize nk d h = Y at *
      obtain ⟨x0, x1, x2, x3, x4, x5, x6, x7, x8, x9, x10, x11⟩ := HNX.out
      obtain ⟨y0, y1, y2, y3, y4, y5, y6, y7, y8, y9, y10, y11⟩ := HNY.out
      generalize ordN X Y = c at *
      go_still_tail 11, (by kernel_rfl)
      go_wp2_with fail
      refine (HCMP.out _ ((HM.out.below HB.out).below (Below.refl _ _).drew)).mono ?_
      rintro e wc ⟨rfl, hb⟩
      have HBC := Lib.hid ((Below.refl wr.heap.size wr).drew.trans hb)
      clear hb x0 x1 x2 x3 x4 x5 x6 x7 x8 x9 x10 x11 y0 y1 y2 y3 y4 y5 y6 y7 y8 y9 y10 y11
      have HO2 := Lib.hid (HO.out.below HBC.out)
      have HB2 := Lib.hid (HB.out.trans (HBC.out.mono HB.out.size))
      by_cases hc0 : c < 0
      · have HX := Lib.hid (HDW.out (fun hf => absurd (HFE.out.1 hf) (by omega)))
        have hcd : decide (c < 0) = true := decide_eq_true hc0
        clear HUP HDW HFE
        go_wp2
        go_roundw
        case rel => exact ⟨i, h, rfl, rfl, HX, HO2, HB2⟩
        case measure => simp [intOf]; omega
      · have HX := Lib.hid (HUP.out (HFE.out.2 (by omega)))
        have hcd : decide (c < 0) = false := decide_eq_false hc0
        have hcz : 0 ≤ c := by omega
        clear HUP HDW HFE
        go_wp2
        go_roundw
        case rel => exact ⟨h + 1, j, by go_num, rfl, HX, HO2, HB2⟩
        case measure => simp [intOf]; omega
    · obtain rfl : i = j := by omega
      have HSRT := Lib.hid (HCUT.out i HC.out)
      obtain ⟨la, lm, lb⟩ := HLN.out
      have HTN := Lib.hid (HTN.out i (by omega) (by omega) (by omega) (by omega))
      obtain ⟨en, hen⟩ : ∃ en, mid + m - i = en := ⟨_, rfl⟩
      have heni : (mid : Int) + (m : Int) - (i : Int) = (en : Int) := by omega
      have hE1 : i < m ↔ mid < en := by omega
      have hE2 : m < en ↔ i < mid := by omega
      have hE3 : en + i ≤ mid + m := by omega
      have hE4 : mid + m ≤ en + i := by omega
      have hE5 : en ≤ b := by omega
      rw [hen] at HTN
      have HP1 := Lib.hid (HPP.out.turn (a := i) (m := m) (b := en) (by omega) (by omega) (by omega))
      have HN1 := Lib.hid ((turnL_len d i m en).trans hld)
      have l1 : (l.take (i - a)).length = i - a := by rw [List.length_take]; omega
      have l2 : (l.drop (i - a)).length = m - i := by rw [List.length_drop]; omega
      have l3 : (r.take (mid - i)).length = mid - i := by rw [List.length_take]; omega
      have l4 : (r.drop (mid - i)).length = b - en := by rw [List.length_drop]; omega
      have HS := Lib.hid (And.intro (sorted_take HLR.out.1 (i - a)) (And.intro (sorted_drop HLR.out.1 (i - a)) (And.intro (sorted_take HLR.out.2 (mid - i)) (sorted_drop HLR.out.2 (mid - i)))))
      have HSM := Lib.hid (show ¬ (i < m ∧ m < en) → turnL d i m en = d from fun hx => by
        by_cases e : i < m
        · rw [show en = m by omega]; exact turnL_zero d i m
        · rw [show i = m by omega]; exact turnL_none d m en (by omega))
      rw [HTN.out] at HP1 HN1 HSM
      have HRT := Lib.hid (fun h1 h2 => HROT.out d i m en wr HO.out hld h1 h2 (by omega) HB.out)
      rw [HTN.out] at HRT
      have HLA := Lib.hid (And.intro la (And.intro lm lb))
      clear HMO HCUT hen HTN HROT la lm lb
      generalize l.take (i - a) = L1 at *
      generalize l.drop (i - a) = L2 at *
      generalize r.take (mid - i) = R1 at *
      generalize r.drop (mid - i) = R2 at *
      go_upto_region 39 with fail
      go_cut [185] from 178 to 185 (fun u wy => u = .bool (decide (i < m ∧ m < en)) ∧ wy = wr)
      case first =>
        by_cases h1 : i < m
        · have h1i : decide ((i : Int) < (m : Int)) = true := decide_eq_true (by omega)
          by_cases h2 : m < en
          · have h2i : decide ((m : Int) < (en : Int)) = true := decide_eq_true (by omega)
            have HQ := Lib.hid (decide_eq_true (And.intro h1 h2))
            clear hE1 hE2
            go_wp2
            go_meet
            exact ⟨by rw [HQ.out], rfl⟩
          · have h2i : decide ((m : Int) < (en : Int)) = false := decide_eq_false (by omega)
            have HQ := Lib.hid (decide_eq_false (fun e : i < m ∧ m < en => h2 e.2))
            clear hE1 hE2
            go_wp2
            go_meet
            exact ⟨by rw [HQ.out], rfl⟩
        · have h1i : decide ((i : Int) < (m : Int)) = false := decide_eq_false (by omega)
          have HQ := Lib.hid (decide_eq_false (fun e : i < m ∧ m < en => h1 e.1))
          clear hE1 hE2
          go_wp2
          go_meet
          exact ⟨by rw [HQ.out], rfl⟩
      case rest =>
      obtain ⟨rfl, rfl⟩ := hcut
      obtain ⟨wr, rfl⟩ : ∃ W : World, W = wc := ⟨_, rfl⟩
      generalize hk1 : decide (i < m ∧ m < en) = k1 at *
      have HK1 := Lib.hid hk1
      clear hk1
      go_step
      go_cut [185] from 186 to 191 (fun _ wy => Hid (OwnNods 60 wy W0.heap.size (.slice (some ⟨g, 0, none⟩) n cap) (p ++ (L1 ++ (R1 ++ (L2 ++ (R2 ++ q)))))) ∧ Hid (Below W0.heap.size W0 wy))
      case first =>
        cases k1 with
        | true =>
          have hx := of_decide_eq_true HK1.out
          have HR := Lib.hid (HRT.out hx.1 hx.2)
          clear hx hE1 hE2
          go_wp2_with fail
          refine HR.out.mono ?_
          rintro e w2 ⟨rfl, ho, hb⟩
          have HO2 := Lib.hid ho
          have HB2 := Lib.hid hb
          clear ho hb
          go_wp2
          go_meet
          exact ⟨HO2, HB2⟩
        | false =>
          have HX := Lib.hid (HSM.out (of_decide_eq_false HK1.out))
          clear hE1 hE2
          go_wp2
          go_meet
          exact ⟨Lib.hid (by rw [HX.out]; exact HO.out), HB⟩
      case rest =>
      obtain ⟨HO1, HB1⟩ := hcut
      obtain ⟨wv, rfl⟩ : ∃ W : World, W = wc := ⟨_, rfl⟩
      clear HRT HSM HO HB HK1 HC HSB
      go_upto_region 41 with fail
      go_cut [199] from 192 to 199 (fun u wy => u = .bool (decide (a < i ∧ i < mid)) ∧ wy = wv)
      case first =>
        by_cases h1 : a < i
        · have h1i : decide ((a : Int) < (i : Int)) = true := decide_eq_true (by omega)
          by_cases h2 : i < mid
          · have h2i : decide ((i : Int) < (mid : Int)) = true := decide_eq_true (by omega)
            have HQ := Lib.hid (decide_eq_true (And.intro h1 h2))
            clear hE1 hE2
            go_wp2
            go_meet
            exact ⟨by rw [HQ.out], rfl⟩
          · have h2i : decide ((i : Int) < (mid : Int)) = false := decide_eq_false (by omega)
            have HQ := Lib.hid (decide_eq_false (fun e : a < i ∧ i < mid => h2 e.2))
            clear hE1 hE2
            go_wp2
            go_meet
            exact ⟨by rw [HQ.out], rfl⟩
        · have h1i : decide ((a : Int) < (i : Int)) = false := decide_eq_false (by omega)
          have HQ := Lib.hid (decide_eq_false (fun e : a < i ∧ i < mid => h1 e.1))
          clear hE1 hE2
          go_wp2
          go_meet
          exact ⟨by rw [HQ.out], rfl⟩
      case rest =>
      obtain ⟨rfl, rfl⟩ := hcut
      obtain ⟨wv, rfl⟩ : ∃ W : World, W = wc := ⟨_, rfl⟩
      generalize hk1 : decide (a < i ∧ i < mid) = k1 at *
      have HK1 := Lib.hid hk1
      clear hk1
      go_step
      go_cut [199] from 200 to 205 (fun _ wy => Hid (OwnNods 60 wy W0.heap.size (.slice (some ⟨g, 0, none⟩) n cap) (p ++ (isort (L1 ++ R1) ++ (L2 ++ (R2 ++ q))))) ∧ Hid (Below W0.heap.size W0 wy))
      case first =>
        cases k1 with
        | true =>
          have hx := of_decide_eq_true HK1.out
          obtain ⟨la, lm, lb⟩ := HLA.out
          have HR := Lib.hid (HIH.out p L1 R1 (L2 ++ (R2 ++ q)) wv (by omega) HO1.out HN1.out HP1.out HB1.out HS.out.1 HS.out.2.2.1 (by omega) (by omega) a i mid la (by omega) (by omega))
          clear hx hE1 hE2 la lm lb
          go_wp2_with fail
          refine HR.out.mono ?_
          rintro e w2 ⟨rfl, ho, hb⟩
          have HO2 := Lib.hid ho
          have HB2 := Lib.hid hb
          clear ho hb
          go_wp2
          go_meet
          exact ⟨HO2, HB2⟩
        | false =>
          have hx := of_decide_eq_false HK1.out
          have HX := Lib.hid (isort_none (l := L1) (r := R1) (by
            by_cases e : a < i
            · exact .inr (List.eq_nil_of_length_eq_zero (by omega))
            · exact .inl (List.eq_nil_of_length_eq_zero (by omega))) HS.out.1 HS.out.2.2.1)
          clear hx hE1 hE2
          go_wp2
          go_meet
          exact ⟨Lib.hid (by rw [HX.out, List.append_assoc]; exact HO1.out), HB1⟩
      case rest =>
      obtain ⟨HO2, HB2⟩ := hcut
      obtain ⟨wy, rfl⟩ : ∃ W : World, W = wc := ⟨_, rfl⟩
      have HP2 := Lib.hid (show PathsOk (p ++ (isort (L1 ++ R1) ++ (L2 ++ (R2 ++ q)))) from HP1.out.perm (fun x hx => by
        simp only [List.mem_append, isort_mem] at hx ⊢
        rcases hx with e | (e | e) | e | e | e <;> simp [e]))
      have HN2 := Lib.hid (show (p ++ (isort (L1 ++ R1) ++ (L2 ++ (R2 ++ q)))).length = n by
        rw [← HN1.out]; simp only [List.length_append, isort_len]; omega)
      have ls : (isort (L1 ++ R1)).length = mid - a := by rw [isort_len, List.length_append]; omega
      generalize isort (L1 ++ R1) = s1 at *
      have e2 : p ++ (s1 ++ (L2 ++ (R2 ++ q))) = (p ++ s1) ++ (L2 ++ (R2 ++ q)) := by rw [List.append_assoc]
      have lps : (p ++ s1).length = mid := by obtain ⟨la, lm, lb⟩ := HLA.out; rw [List.length_append]; omega
      rw [e2] at HO2 HP2 HN2
      have HFIN := Lib.hid (show (p ++ s1) ++ (isort (L2 ++ R2) ++ q) = p ++ (isort (l ++ r) ++ q) by rw [← HSRT.out]; simp)
      clear HO1 HB1 HP1 HN1 HK1 e2
      go_upto_region 43 with fail
      go_cut [213] from 206 to 213 (fun u wx => u = .bool (decide (mid < en ∧ en < b)) ∧ wx = wy)
      case first =>
        by_cases h1 : mid < en
        · have h1i : decide ((mid : Int) < (en : Int)) = true := decide_eq_true (by omega)
          by_cases h2 : en < b
          · have h2i : decide ((en : Int) < (b : Int)) = true := decide_eq_true (by omega)
            have HQ := Lib.hid (decide_eq_true (And.intro h1 h2))
            clear hE1 hE2
            go_wp2
            go_meet
            exact ⟨by rw [HQ.out], rfl⟩
          · have h2i : decide ((en : Int) < (b : Int)) = false := decide_eq_false (by omega)
            have HQ := Lib.hid (decide_eq_false (fun e : mid < en ∧ en < b => h2 e.2))
            clear hE1 hE2
            go_wp2
            go_meet
            exact ⟨by rw [HQ.out], rfl⟩
        · have h1i : decide ((mid : Int) < (en : Int)) = false := decide_eq_false (by omega)
          have HQ := Lib.hid (decide_eq_false (fun e : mid < en ∧ en < b => h1 e.1))
          clear hE1 hE2
          go_wp2
          go_meet
          exact ⟨by rw [HQ.out], rfl⟩
      case rest =>
      obtain ⟨rfl, rfl⟩ := hcut
      obtain ⟨wy, rfl⟩ : ∃ W : World, W = wc := ⟨_, rfl⟩
      generalize hk1 : decide (mid < en ∧ en < b) = k1 at *
      have HK1 := Lib.hid hk1
      clear hk1
      cases k1 with
      | true =>
        have hx := of_decide_eq_true HK1.out
        obtain ⟨la, lm, lb⟩ := HLA.out
        have HR := Lib.hid (HIH.out (p ++ s1) L2 R2 q wy (by omega) HO2.out HN2.out HP2.out HB2.out HS.out.2.1 HS.out.2.2.2 (by omega) (by omega) mid en b lps.symm (by omega) (by omega))
        rw [HFIN.out] at HR
        clear hx hE1 hE2 la lm lb
        go_wp2_with fail
        refine HR.out.mono ?_
        rintro e w2 ⟨rfl, ho, hb⟩
        have HO3 := Lib.hid ho
        have HB3 := Lib.hid hb
        clear ho hb
        go_wp2
        go_end0
        exact ⟨rfl, HO3.out, HB3.out⟩
      | false =>
        have hx := of_decide_eq_false HK1.out
        have HX := Lib.hid (isort_none (l := L2) (r := R2) (by
          by_cases e : mid < en
          · exact .inr (List.eq_nil_of_length_eq_zero (by omega))
          · exact .inl (List.eq_nil_of_length_eq_zero (by omega))) HS.out.2.1 HS.out.2.2.2)
        have HO3 := Lib.hid (show OwnNods 60 wy W0.heap.size (.slice (some ⟨g, 0, none⟩) n cap) (p ++ (isort (l ++ r) ++ q)) by rw [← HFIN.out, HX.out, List.append_assoc L2]; exact HO2.out)
        clear hx hE1 hE2
        go_wp2
        go_end0
        exact ⟨rfl, HO3.out, HB2.out⟩
end Go.Proofs.YtaffgndickdbiaaDoor
