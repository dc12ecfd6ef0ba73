/-
  Texts: InsLA, SymABA.
-/
import Derived.Test.YtaffgndickdbiaaDoorT11
set_option linter.unusedVariables false
set_option linter.unusedSimpArgs false
set_option linter.unusedSectionVars false
namespace Go.Proofs.YtaffgndickdbiaaDoor
open Go.Creel Go.RowKit
set_option maxRecDepth 100000 in
theorem SortCmpA_any (x y : Nod) (w : World) (hM : MaxOk w) (hx : x.path.size ≤ 1048576) (hy : y.path.size ≤ 1048576) :
    Calls Tryd.prog 50 #[x.val, y.val] w fun e w' => e = .returned (.int .i64 (ordN x y)) ∧ Below w.heap.size w w' := by
  have HB := Lib.hid (((Below.refl w.heap.size w).alloc (Nat.le_refl _) (boxOf x)).alloc (by simp) (boxOf y))
  have HC := Lib.hid (fun w hM => Compare_any x.path y.path w hM hx hy)
  have HM := Lib.hid (hM.below HB.out)
  rw [show ordP (pathParts x.path) (pathParts y.path) = ordN x y from rfl] at HC
  clear hM hx hy
  go_enter Tryd.func50, Tryd.ntmps50
  go_wp2_with fail
  refine (HC.out _ HM.out).mono ?_
  rintro e w2 ⟨rfl, hb⟩
  have HB2 := Lib.hid (HB.out.trans (hb.mono HB.out.size))
  clear hb
  go_wp2
  go_ret
  exact ⟨rfl, HB2.out⟩
set_option maxRecDepth 100000 in
set_option maxHeartbeats 4000000 in
theorem InsertA_any (W0 : World) (g cap n : Nat) (p x q : List Nod) (w : World) (h : OwnNods 60 w W0.heap.size (.slice (some ⟨g, 0, none⟩) n cap) (p ++ (x ++ q))) (hm : (p ++ (x ++ q)).length = n) (hn : n ≤ cap) (hc : cap ≤ maxLen) (hfew : n ≤ 8000000000) (hp : PathsOk (p ++ (x ++ q))) (hM : MaxOk W0) (hB : Below W0.heap.size W0 w) (a b : Nat) (ha : a = p.length) (hb : b = p.length + x.length) :
    Calls Tryd.prog 108 #[(.slice (some ⟨g, 0, none⟩) n cap), .int .i64 a, .int .i64 b, (.func (.func 50) #[] #[])] w fun e w' => e = .returned (.tuple #[]) ∧ OwnNods 60 w' W0.heap.size (.slice (some ⟨g, 0, none⟩) n cap) (p ++ (isort x ++ q)) ∧ Below W0.heap.size W0 w' := by
  unfold maxLen at hc
  have hnn : p.length + x.length ≤ n := by rw [← hm]; simp only [List.length_append]; omega
  have H := Lib.hid h
  have HB0 := Lib.hid hB
  have HL := Lib.hid (fun k => (insS_len (p := p) (x := x) (q := q) (k := k)).trans hm)
  have HP := Lib.hid (fun k => insS_paths (k := k) hp)
  have HM := Lib.hid hM
  have HALL := Lib.hid (fun k hk => insS_all p x q (k := k) hk)
  have HONE := Lib.hid (insS_one p x q)
  have HDONE := Lib.hid (fun k j hk hj h1 h2 => insert_done (p := p) (x := x) (q := q) (k := k) (j := j) hk hj h1 h2)
  have hent := enter_of Tryd.func50 (by kernel_rfl) (by kernel_rfl)
  obtain ⟨a0, ha0⟩ : ∃ a0, p.length = a0 := ⟨_, rfl⟩
  rw [ha0] at ha hb hnn HDONE
  subst ha
  have hbx := hb
  have HAT := Lib.hid (fun k (hk : k < x.length) => (show nk (insS p x q k) (a + k) = nk x k by rw [← ha0]; exact insS_at hk))
  have HOL := Lib.hid (fun k j (hk : k ≤ x.length) (hj : j < k) => (show nk (insS p x q k) (a + j) = nk (isort (x.take k)) j by rw [← ha0]; exact insS_old hk hj))
  clear h hB hm hp hM ha0 hb
  go_enter Tryd.func108, Tryd.ntmps108
  go_wp2_with fail
  go_loopw [8, 9] (fun v8 _ wr => ∃ k : Nat, 1 ≤ k ∧ (k ≤ x.length ∨ (k = 1 ∧ x.length = 0)) ∧ v8 = .int .i64 ((a + k : Nat) : Int) ∧ Hid (OwnNods 60 wr W0.heap.size (.slice (some ⟨g, 0, none⟩) n cap) (insS p x q k)) ∧ Hid (Below W0.heap.size W0 wr)) (fun v8 _ _ => b - (intOf v8).toNat)
  case atStart => exact ⟨1, by omega, by omega, by go_num, Lib.hid (by rw [HONE.out]; exact H.out), HB0⟩
  case round =>
    obtain ⟨k, hk1, hkx, rfl, HO, HB⟩ := hrel
    by_cases hlt : k < x.length
    · have hab : (((a + k : Nat) : Int)) < (b : Int) := by omega
      go_upto_region 4 with fail
      go_loopw [9] (fun v9 wx => ∃ d : Nat, d ≤ k ∧ v9 = .int .i64 ((a + d : Nat) : Int) ∧ Hid (OwnNods 60 wx W0.heap.size (.slice (some ⟨g, 0, none⟩) n cap) (turnL (insS p x q k) (a + d) (a + k) (a + k + 1))) ∧ Hid (Below W0.heap.size W0 wx) ∧ Hid (∀ i, d ≤ i → i < k → ordN (nk x k) (nk (isort (x.take k)) i) < 0)) (fun v9 _ => (intOf v9).toNat)
      case atStart => exact ⟨k, by omega, rfl, Lib.hid (by rw [turnL_none _ _ _ (by rw [HL.out]; omega)]; exact HO.out), HB, Lib.hid (fun i h1 h2 => absurd h2 (by omega))⟩
      case round =>
        obtain ⟨d, hd, rfl, HO1, HB1, HLT⟩ := hrel
        by_cases hd0 : d = 0
        · subst hd0
          have HD : Hid (turnL (insS p x q k) (a + 0) (a + k) (a + k + 1) = insS p x q (k + 1)) := Lib.hid (HDONE.out k 0 hlt (by omega) (fun i h1 h2 => HLT.out i h1 h2) (fun h => absurd h (by omega)))
          rw [HD.out] at HO1
          have hgd : ¬ ((a : Int) < ((a + 0 : Nat) : Int)) := by omega
          have hge : decide ((a : Int) < ((a + 0 : Nat) : Int)) = false := decide_eq_false hgd
          clear HLT HD
          go_wp2
          go_quiet (fail)
          go_wp2
          go_roundw
          case rel => exact ⟨k + 1, by omega, by omega, by go_num, Lib.hid (HO1.out.below (below_draws _ _ _)), Lib.hid (HB1.out.trans ((below_draws _ _ _).mono HB1.out.size))⟩
          case measure => simp [intOf]; omega
        · have hl : (turnL (insS p x q k) (a + d) (a + k) (a + k + 1)).length = n := by rw [turnL_len]; exact HL.out k
          have HXE := Lib.hid ((turn_at (l := insS p x q k) (j := a + d) (i := a + k) (by omega) (by rw [HL.out]; omega)).trans (HAT.out k hlt))
          have HYE := Lib.hid (show nk (turnL (insS p x q k) (a + d) (a + k) (a + k + 1)) (a + d - 1) = nk (isort (x.take k)) (d - 1) from (turn_ahead (by omega) (by omega) (by rw [HL.out]; omega)).trans (by rw [show a + d - 1 = a + (d - 1) by omega]; exact HOL.out k (d - 1) (by omega) (by omega)))
          have HTD := Lib.hid (turn_down (l := insS p x q k) (m := a + k) (k := a + d) (by omega) (by omega) (by rw [HL.out]; omega))
          have HPT := Lib.hid ((HP.out k).turn (a := a + d) (m := a + k) (b := a + k + 1) (by omega) (by omega) (by rw [HL.out]; omega))
          have HDN := Lib.hid (fun h2 => (show turnL (insS p x q k) (a + d) (a + k) (a + k + 1) = insS p x q (k + 1) from HDONE.out k d hlt hd (fun i h1 h2 => HLT.out i h1 h2) h2))
          have HLS := Lib.hid (fun (h : ordN (nk x k) (nk (isort (x.take k)) (d - 1)) < 0) i (h1 : d - 1 ≤ i) (h2 : i < k) => (show ordN (nk x k) (nk (isort (x.take k)) i) < 0 from by
            by_cases e : i = d - 1
            · rw [e]; exact h
            · exact HLT.out i (by omega) h2))
          generalize hs : turnL (insS p x q k) (a + d) (a + k) (a + k + 1) = s at *
          generalize hs1 : turnL (insS p x q k) (a + d - 1) (a + k) (a + k + 1) = s1 at *
          have HS1 := Lib.hid hs1
          clear hs hs1 HLT
          obtain ⟨j, hj⟩ : ∃ j, a + d = j := ⟨_, rfl⟩
          rw [hj] at HXE HTD
          rw [hj] at HYE
          obtain ⟨j1, hj1⟩ : ∃ j1, j - 1 = j1 := ⟨_, rfl⟩
          rw [hj1] at HYE HTD
          have hjj : (j : Int) - 1 = (j1 : Int) := by omega
          have hgd : (a : Int) < (j : Int) := by omega
          have hge : decide ((a : Int) < (j : Int)) = true := decide_eq_true hgd
          have hjn : j < n := by omega
          have hj1n : j1 < n := by omega
          have hwj : IntKind.i64.wrap (j1 : Int) = (j1 : Int) := by rw [IntKind.wrap_i64]; omega
          have hjl : (j1 : Int) < (n : Int) := by omega
          have HCMP := Lib.hid (fun w hM => SortCmpA_any (nk s j) (nk s j1) w hM (HPT.out.at (by omega)) (HPT.out.at (by omega)))
          have HSWF := Lib.hid (fun W (h : OwnNods 60 W W0.heap.size (.slice (some ⟨g, 0, none⟩) n cap) s) (hB : Below W0.heap.size W0 W) => h.swap (i := j) (j := j1) hl hjn hj1n hB)
          rw [HTD.out] at HSWF
          rw [HXE.out, HYE.out] at HCMP
          have HNX := Lib.hid (HO1.out.nodAtN hl hjn)
          have HNY := Lib.hid (HO1.out.nodAtN hl hj1n)
          rw [HXE.out] at HNX HSWF
          rw [HYE.out] at HNY HSWF
          have HJ := Lib.hid hj
          rw [hj]
          clear hj hj1 HTD HPT HXE HYE
          generalize nk x k = X at *
          generalize nk (isort (x.take k)) (d - 1) = Y at *
          obtain ⟨x0, x1, x2, x3, x4, x5, x6, x7, x8, x9, x10, x11⟩ := HNX.out
          obtain ⟨y0, y1, y2, y3, y4, y5, y6, y7, y8, y9, y10, y11⟩ := HNY.out
          generalize ordN X Y = c at *
          go_wp2
          go_still_tail 14, (by kernel_rfl)
          go_wp2_with fail
          refine (HCMP.out _ ((HM.out.below HB1.out).below (Below.refl _ _).drew)).mono ?_
          rintro e wc ⟨rfl, hb⟩
          have HBC := Lib.hid ((Below.refl wr.heap.size wr).drew.trans hb)
          clear hb x0 x1 x2 x3 x4 x5 x6 x7 x8 x9 x10 x11 y0 y1 y2 y3 y4 y5 y6 y7 y8 y9 y10 y11
          have HO2 := Lib.hid (HO1.out.below HBC.out)
          have HB2 := Lib.hid (HB1.out.trans (HBC.out.mono HB1.out.size))
          have HNX2 := Lib.hid (HNX.out.below HBC.out)
          have HNY2 := Lib.hid (HNY.out.below HBC.out)
          by_cases hc0 : c < 0
          · have HSW := Lib.hid (HSWF.out wc HO2.out HB2.out)
            have HLD := Lib.hid (HLS.out hc0)
            obtain ⟨x0, x1, x2, x3, x4, x5, x6, x7, x8, x9, x10, x11⟩ := HNX2.out
            obtain ⟨y0, y1, y2, y3, y4, y5, y6, y7, y8, y9, y10, y11⟩ := HNY2.out
            have xf0 := HO2.out.frozenAtN hl (j * 12)
            have xf1 := HO2.out.frozenAtN hl (j * 12 + 1)
            have xf2 := HO2.out.frozenAtN hl (j * 12 + 2)
            have xf3 := HO2.out.frozenAtN hl (j * 12 + 3)
            have xf4 := HO2.out.frozenAtN hl (j * 12 + 4)
            have xf5 := HO2.out.frozenAtN hl (j * 12 + 5)
            have xf6 := HO2.out.frozenAtN hl (j * 12 + 6)
            have xf7 := HO2.out.frozenAtN hl (j * 12 + 7)
            have xf8 := HO2.out.frozenAtN hl (j * 12 + 8)
            have xf9 := HO2.out.frozenAtN hl (j * 12 + 9)
            have xf10 := HO2.out.frozenAtN hl (j * 12 + 10)
            have xf11 := HO2.out.frozenAtN hl (j * 12 + 11)
            have yf0 := HO2.out.frozenAtN hl (j1 * 12)
            have yf1 := HO2.out.frozenAtN hl (j1 * 12 + 1)
            have yf2 := HO2.out.frozenAtN hl (j1 * 12 + 2)
            have yf3 := HO2.out.frozenAtN hl (j1 * 12 + 3)
            have yf4 := HO2.out.frozenAtN hl (j1 * 12 + 4)
            have yf5 := HO2.out.frozenAtN hl (j1 * 12 + 5)
            have yf6 := HO2.out.frozenAtN hl (j1 * 12 + 6)
            have yf7 := HO2.out.frozenAtN hl (j1 * 12 + 7)
            have yf8 := HO2.out.frozenAtN hl (j1 * 12 + 8)
            have yf9 := HO2.out.frozenAtN hl (j1 * 12 + 9)
            have yf10 := HO2.out.frozenAtN hl (j1 * 12 + 10)
            have yf11 := HO2.out.frozenAtN hl (j1 * 12 + 11)
            clear HNX HNY HNX2 HNY2 HCMP HSWF HDN HLS HO1 HB1
            go_upto_region 6 with fail
            go_region
            generalize (setNode (setNode wc g (j * 12) Y) g (j1 * 12) X).drew = W9 at *
            go_wp2
            refine ⟨?_, ?measure⟩
            repeat apply Exists.intro
            refine ⟨?rel2, rfl⟩
            case rel2 =>
              have hj := HJ.out
              exact ⟨d - 1, by omega, by go_num, Lib.hid (by rw [show a + (d - 1) = a + d - 1 by omega, HS1.out]; exact HSW.out.1), Lib.hid HSW.out.2, HLD⟩
            case measure => simp [intOf]; omega
          · have HD := Lib.hid (HDN.out (fun _ => by omega))
            rw [HD.out] at HO2
            clear HNX HNY HNX2 HNY2 HCMP HSWF HDN HLS HO1 HB1
            go_wp2
            go_roundw
            case rel => exact ⟨k + 1, by omega, by omega, by go_num, HO2, HB2⟩
            case measure => simp [intOf]; omega
    · have hab : ¬ (((a + k : Nat) : Int)) < (b : Int) := by omega
      go_wp2
      go_end0
      exact ⟨rfl, by rw [← HALL.out k (by omega)]; exact HO.out, HB.out⟩
open Go.Creel Go.RowKit
set_option maxRecDepth 100000 in
set_option maxHeartbeats 4000000 in
theorem SymAA_any (W0 : World) (g cap n : Nat) (p r q : List Nod) (y : Nod) (w : World) (h : OwnNods 60 w W0.heap.size (.slice (some ⟨g, 0, none⟩) n cap) (p ++ ([y] ++ (r ++ q)))) (hm : (p ++ ([y] ++ (r ++ q))).length = n) (hn : n ≤ cap) (hc : cap ≤ maxLen) (hfew : n ≤ 8000000000) (hp : PathsOk (p ++ ([y] ++ (r ++ q)))) (hM : MaxOk W0) (hB : Below W0.heap.size W0 w) (hr : r.Pairwise PathLe) (a m b : Nat) (ha : a = p.length) (hmm : m = p.length + 1) (hb : b = p.length + 1 + r.length) :
    Calls Tryd.prog 109 #[(.slice (some ⟨g, 0, none⟩) n cap), .int .i64 a, .int .i64 m, .int .i64 b, (.func (.func 50) #[] #[])] w fun e w' => e = .returned (.tuple #[]) ∧ OwnNods 60 w' W0.heap.size (.slice (some ⟨g, 0, none⟩) n cap) (p ++ (isort ([y] ++ r) ++ q)) ∧ Below W0.heap.size W0 w' := by
  unfold maxLen at hc
  have hbn : b ≤ n := by rw [← hm]; simp only [List.length_append, List.length_cons, List.length_nil]; omega
  have hma : a + 1 ≤ m := by omega
  have hma2 : m ≤ a + 1 := by omega
  have hmb : m ≤ b := by omega
  have HMO := Lib.hid (fun k h h1 h2 h3 hf => symA_mono (p := p) (r := r) (q := q) (y := y) (a := a) (m := m) (b := b) (k := k) (h := h) ha hmm hb hr h1 h2 h3 hf)
  have HFI := Lib.hid (fun i C => symA_fin (p := p) (r := r) (q := q) (y := y) (a := a) (m := m) (b := b) (i := i) ha hmm hb hr C)
  have H := Lib.hid h
  have HB0 := Lib.hid hB
  have HM := Lib.hid hM
  have HPD := Lib.hid hp
  have hent := enter_of Tryd.func50 (by kernel_rfl) (by kernel_rfl)
  clear h hB hM hp hr ha hmm hb
  generalize p ++ (isort ([y] ++ r) ++ q) = res at *
  generalize p ++ ([y] ++ (r ++ q)) = d at *
  have hld := hm
  clear hm
  have hma1 : (m : Int) - (a : Int) = 1 := by omega
  go_enter Tryd.func109, Tryd.ntmps109
  go_wp2_with fail
  go_loopw [10, 11, 12] (fun vi vj _ wr => ∃ i j : Nat, vi = .int .i64 (i : Int) ∧ vj = .int .i64 (j : Int) ∧ Hid (Cut2 (SymFA d a) m b i j) ∧ Hid (OwnNods 60 wr W0.heap.size (.slice (some ⟨g, 0, none⟩) n cap) d) ∧ Hid (Below W0.heap.size W0 wr)) (fun vi vj _ _ => (intOf vj).toNat - (intOf vi).toNat)
  case atStart => exact ⟨m, b, rfl, rfl, Lib.hid (Cut2.start (by omega)), H, HB0⟩
  case round =>
    obtain ⟨i, j, rfl, rfl, HC, HO, HB⟩ := hrel
    have hi1 := HC.out.lo_le
    have hi2 := HC.out.le
    have hi3 := HC.out.le_hi
    by_cases hlt : i < j
    · obtain ⟨hh1, hh2⟩ := halfS_lt hlt
      go_upto_region 5 with fail
      rw [show ((i : Int) + (j : Int)) / 2 = (((i + j) / 2 : Nat) : Int) by omega]
      generalize (i + j) / 2 = h at *
      have hhn : h < n := by omega
      have hhi : (h : Int) < (n : Int) := by omega
      have hai : ((a : Nat) : Int) < (n : Int) := by omega
      have HCMP := Lib.hid (fun w hM => SortCmpA_any (nk d h) (nk d a) w hM (HPD.out.at (by omega)) (HPD.out.at (by omega)))
      have HNX := Lib.hid (HO.out.nodAtN hld (k := h) (by omega))
      have HNY := Lib.hid (HO.out.nodAtN hld (k := a) (by omega))
      have HUP := Lib.hid (fun (hf : SymFA d a h) => HC.out.up hh1 hh2 (fun k h1 h2 h3 => HMO.out k h h1 h2 (by omega) h3) hf)
      have HDW := Lib.hid (fun (hf : ¬ SymFA d a h) => HC.out.down hh1 hh2 (fun k h1 h2 h3 => HMO.out h k (by omega) h1 h2 h3) hf)
      have HFE : Hid (SymFA d a h ↔ ordN (nk d h) (nk d a) < 0) := Lib.hid Iff.rfl
      generalize nk d h = X at *
      generalize nk d a = Y at *
      obtain ⟨x0, x1, x2, x3, x4, x5, x6, x7, x8, x9, x10, x11⟩ := HNX.out
      obtain ⟨y0, y1, y2, y3, y4, y5, y6, y7, y8, y9, y10, y11⟩ := HNY.out
      generalize ordN X Y = c at *
      go_still_tail 9, (by kernel_rfl)
      go_wp2_with fail
      refine (HCMP.out _ ((HM.out.below HB.out).below (Below.refl _ _).drew)).mono ?_
      rintro e wc ⟨rfl, hb⟩
      have HBC := Lib.hid ((Below.refl wr.heap.size wr).drew.trans hb)
      clear hb x0 x1 x2 x3 x4 x5 x6 x7 x8 x9 x10 x11 y0 y1 y2 y3 y4 y5 y6 y7 y8 y9 y10 y11
      have HO2 := Lib.hid (HO.out.below HBC.out)
      have HB2 := Lib.hid (HB.out.trans (HBC.out.mono HB.out.size))
      by_cases hc0 : c < 0
      · have HX := Lib.hid (HUP.out (HFE.out.2 hc0))
        clear HUP HDW HFE
        go_wp2
        go_roundw
        case rel => exact ⟨h + 1, j, by go_num, rfl, HX, HO2, HB2⟩
        case measure => simp [intOf]; omega
      · have HX := Lib.hid (HDW.out (fun hf => hc0 (HFE.out.1 hf)))
        have hcd : decide (c < 0) = false := decide_eq_false hc0
        have hcz : 0 ≤ c := by omega
        clear HUP HDW HFE
        go_wp2
        go_roundw
        case rel => exact ⟨i, h, rfl, rfl, HX, HO2, HB2⟩
        case measure => simp [intOf]; omega
    · obtain rfl : i = j := by omega
      have HRES := Lib.hid (HFI.out i HC.out)
      have HTU := Lib.hid (fun k (h1 : a ≤ k) (h2 : k + 1 < i) => turn_up (l := d) (a := a) (k := k) h1 (by omega))
      have HLT := Lib.hid (fun k => (turnL_len d a (a + 1) k).trans hld)
      clear HMO HFI HPD
      obtain ⟨i1, hi0⟩ : ∃ i1, i = i1 + 1 := ⟨i - 1, by omega⟩
      have hii : (i : Int) - 1 = (i1 : Int) := by omega
      go_wp2_with fail
      go_loopw [13] (fun vk wx => ∃ k : Nat, vk = .int .i64 (k : Int) ∧ a ≤ k ∧ k ≤ i1 ∧ Hid (OwnNods 60 wx W0.heap.size (.slice (some ⟨g, 0, none⟩) n cap) (turnL d a (a + 1) (k + 1))) ∧ Hid (Below W0.heap.size W0 wx)) (fun vk _ => i - (intOf vk).toNat)
      case atStart => exact ⟨a, rfl, by omega, by omega, Lib.hid (by rw [turnL_zero]; exact HO.out), HB⟩
      case round =>
        obtain ⟨k, rfl, hk1, hk2, HO1, HB1⟩ := hrel
        by_cases hlk : k < i1
        · have HSW := Lib.hid (HO1.out.swap (HLT.out _) (i := k) (j := k + 1) (by omega) (by omega) HB1.out)
          rw [HTU.out k hk1 (by omega)] at HSW
          have hl := HLT.out (k + 1)
          generalize turnL d a (a + 1) (k + 1) = s at *
          generalize hs1 : turnL d a (a + 1) (k + 2) = s1 at *
          have HS1 := Lib.hid hs1
          clear hs1
          obtain ⟨kk, hkk0⟩ : ∃ kk, k + 1 = kk := ⟨_, rfl⟩
          rw [hkk0] at HSW
          have hkk : (k : Int) + 1 = (kk : Int) := by omega
          obtain ⟨x0, x1, x2, x3, x4, x5, x6, x7, x8, x9, x10, x11⟩ := HO1.out.nodAtN hl (k := k) (by omega)
          obtain ⟨y0, y1, y2, y3, y4, y5, y6, y7, y8, y9, y10, y11⟩ := HO1.out.nodAtN hl (k := kk) (by omega)
          generalize nk s k = X at *
          generalize nk s kk = Y at *
          have xf0 := HO1.out.frozenAtN hl (k * 12)
          have xf1 := HO1.out.frozenAtN hl (k * 12 + 1)
          have xf2 := HO1.out.frozenAtN hl (k * 12 + 2)
          have xf3 := HO1.out.frozenAtN hl (k * 12 + 3)
          have xf4 := HO1.out.frozenAtN hl (k * 12 + 4)
          have xf5 := HO1.out.frozenAtN hl (k * 12 + 5)
          have xf6 := HO1.out.frozenAtN hl (k * 12 + 6)
          have xf7 := HO1.out.frozenAtN hl (k * 12 + 7)
          have xf8 := HO1.out.frozenAtN hl (k * 12 + 8)
          have xf9 := HO1.out.frozenAtN hl (k * 12 + 9)
          have xf10 := HO1.out.frozenAtN hl (k * 12 + 10)
          have xf11 := HO1.out.frozenAtN hl (k * 12 + 11)
          have yf0 := HO1.out.frozenAtN hl (kk * 12)
          have yf1 := HO1.out.frozenAtN hl (kk * 12 + 1)
          have yf2 := HO1.out.frozenAtN hl (kk * 12 + 2)
          have yf3 := HO1.out.frozenAtN hl (kk * 12 + 3)
          have yf4 := HO1.out.frozenAtN hl (kk * 12 + 4)
          have yf5 := HO1.out.frozenAtN hl (kk * 12 + 5)
          have yf6 := HO1.out.frozenAtN hl (kk * 12 + 6)
          have yf7 := HO1.out.frozenAtN hl (kk * 12 + 7)
          have yf8 := HO1.out.frozenAtN hl (kk * 12 + 8)
          have yf9 := HO1.out.frozenAtN hl (kk * 12 + 9)
          have yf10 := HO1.out.frozenAtN hl (kk * 12 + 10)
          have yf11 := HO1.out.frozenAtN hl (kk * 12 + 11)
          have HKK := Lib.hid hkk0
          clear hkk0 HO1 HB1
          go_upto_region 11 with fail
          go_region
          generalize (setNode (setNode wr g (k * 12) Y) g (kk * 12) X).drew = W9 at *
          go_wp2
          go_roundw
          case rel =>
            have hkk0 := HKK.out
            exact ⟨k + 1, by go_num, by omega, by omega, Lib.hid (by rw [HS1.out]; exact HSW.out.1), Lib.hid HSW.out.2⟩
          case measure =>
            have hkk0 := HKK.out
            simp [intOf]; omega
        · obtain rfl : k = i1 := by omega
          rw [← hi0, HRES.out] at HO1
          go_wp2
          (try simp only [Exit.inBlock, Exit.then])
          refine bodyPost_ret (results_none rfl _ _ _) rfl ?_
          exact ⟨rfl, HO1.out, HB1.out⟩
set_option maxRecDepth 100000 in
set_option maxHeartbeats 4000000 in
theorem SymBA_any (W0 : World) (g cap n : Nat) (p l q : List Nod) (y : Nod) (w : World) (h : OwnNods 60 w W0.heap.size (.slice (some ⟨g, 0, none⟩) n cap) (p ++ (l ++ ([y] ++ q)))) (hm : (p ++ (l ++ ([y] ++ q))).length = n) (hn : n ≤ cap) (hc : cap ≤ maxLen) (hfew : n ≤ 8000000000) (hp : PathsOk (p ++ (l ++ ([y] ++ q)))) (hM : MaxOk W0) (hB : Below W0.heap.size W0 w) (hl : l.Pairwise PathLe) (hl1 : l.length ≠ 1) (a m b : Nat) (ha : a = p.length) (hmm : m = p.length + l.length) (hb : b = p.length + l.length + 1) :
    Calls Tryd.prog 109 #[(.slice (some ⟨g, 0, none⟩) n cap), .int .i64 a, .int .i64 m, .int .i64 b, (.func (.func 50) #[] #[])] w fun e w' => e = .returned (.tuple #[]) ∧ OwnNods 60 w' W0.heap.size (.slice (some ⟨g, 0, none⟩) n cap) (p ++ (isort (l ++ [y]) ++ q)) ∧ Below W0.heap.size W0 w' := by
  unfold maxLen at hc
  have hbn : b ≤ n := by rw [← hm]; simp only [List.length_append, List.length_cons, List.length_nil]; omega
  have hbm : m + 1 ≤ b := by omega
  have hbm2 : b ≤ m + 1 := by omega
  have ham : a ≤ m := by omega
  have hma0 : m - a ≠ 1 := by omega
  have HMO := Lib.hid (fun k h h1 h2 h3 hf => symB_mono (p := p) (l := l) (q := q) (y := y) (a := a) (m := m) (k := k) (h := h) ha hmm hl h1 h2 h3 hf)
  have HFI := Lib.hid (fun i C => symB_fin (p := p) (l := l) (q := q) (y := y) (a := a) (m := m) (i := i) ha hmm hl C)
  have H := Lib.hid h
  have HB0 := Lib.hid hB
  have HM := Lib.hid hM
  have HPD := Lib.hid hp
  have hent := enter_of Tryd.func50 (by kernel_rfl) (by kernel_rfl)
  clear h hB hM hp hl ha hmm hb hl1
  generalize p ++ (isort (l ++ [y]) ++ q) = res at *
  generalize p ++ (l ++ ([y] ++ q)) = d at *
  have hld := hm
  clear hm
  have hma1 : (((m : Int) - (a : Int)) == 1) = false := by rw [beq_eq_false_iff_ne]; omega
  have hbm1 : (b : Int) - (m : Int) = 1 := by omega
  go_enter Tryd.func109, Tryd.ntmps109
  go_wp2_with fail
  go_loopw [14, 15, 16] (fun vi vj _ wr => ∃ i j : Nat, vi = .int .i64 (i : Int) ∧ vj = .int .i64 (j : Int) ∧ Hid (Cut2 (SymFB d m) a m i j) ∧ Hid (OwnNods 60 wr W0.heap.size (.slice (some ⟨g, 0, none⟩) n cap) d) ∧ Hid (Below W0.heap.size W0 wr)) (fun vi vj _ _ => (intOf vj).toNat - (intOf vi).toNat)
  case atStart => exact ⟨a, m, rfl, rfl, Lib.hid (Cut2.start (by omega)), H, HB0⟩
  case round =>
    obtain ⟨i, j, rfl, rfl, HC, HO, HB⟩ := hrel
    have hi1 := HC.out.lo_le
    have hi2 := HC.out.le
    have hi3 := HC.out.le_hi
    by_cases hlt : i < j
    · obtain ⟨hh1, hh2⟩ := halfS_lt hlt
      go_upto_region 17 with fail
      rw [show ((i : Int) + (j : Int)) / 2 = (((i + j) / 2 : Nat) : Int) by omega]
      generalize (i + j) / 2 = h at *
      have hhn : h < n := by omega
      have hhi : (h : Int) < (n : Int) := by omega
      have hai : ((m : Nat) : Int) < (n : Int) := by omega
      have HCMP := Lib.hid (fun w hM => SortCmpA_any (nk d m) (nk d h) w hM (HPD.out.at (by omega)) (HPD.out.at (by omega)))
      have HNX := Lib.hid (HO.out.nodAtN hld (k := m) (by omega))
      have HNY := Lib.hid (HO.out.nodAtN hld (k := h) (by omega))
      have HUP := Lib.hid (fun (hf : SymFB d m h) => HC.out.up hh1 hh2 (fun k h1 h2 h3 => HMO.out k h h1 h2 (by omega) h3) hf)
      have HDW := Lib.hid (fun (hf : ¬ SymFB d m h) => HC.out.down hh1 hh2 (fun k h1 h2 h3 => HMO.out h k (by omega) h1 h2 h3) hf)
      have HFE : Hid (SymFB d m h ↔ ¬ ordN (nk d m) (nk d h) < 0) := Lib.hid Iff.rfl
      generalize nk d m = X at *
      generalize nk d h = Y at *
      obtain ⟨x0, x1, x2, x3, x4, x5, x6, x7, x8, x9, x10, x11⟩ := HNX.out
      obtain ⟨y0, y1, y2, y3, y4, y5, y6, y7, y8, y9, y10, y11⟩ := HNY.out
      generalize ordN X Y = c at *
      go_still_tail 9, (by kernel_rfl)
      go_wp2_with fail
      refine (HCMP.out _ ((HM.out.below HB.out).below (Below.refl _ _).drew)).mono ?_
      rintro e wc ⟨rfl, hb⟩
      have HBC := Lib.hid ((Below.refl wr.heap.size wr).drew.trans hb)
      clear hb x0 x1 x2 x3 x4 x5 x6 x7 x8 x9 x10 x11 y0 y1 y2 y3 y4 y5 y6 y7 y8 y9 y10 y11
      have HO2 := Lib.hid (HO.out.below HBC.out)
      have HB2 := Lib.hid (HB.out.trans (HBC.out.mono HB.out.size))
      by_cases hc0 : c < 0
      · have HX := Lib.hid (HDW.out (fun hf => absurd (HFE.out.1 hf) (by omega)))
        clear HUP HDW HFE
        go_wp2
        go_roundw
        case rel => exact ⟨i, h, rfl, rfl, HX, HO2, HB2⟩
        case measure => simp [intOf]; omega
      · have HX := Lib.hid (HUP.out (HFE.out.2 (by omega)))
        have hcd : decide (c < 0) = false := decide_eq_false hc0
        have hcz : 0 ≤ c := by omega
        clear HUP HDW HFE
        go_wp2
        go_roundw
        case rel => exact ⟨h + 1, j, by go_num, rfl, HX, HO2, HB2⟩
        case measure => simp [intOf]; omega
    · obtain rfl : i = j := by omega
      have HRES := Lib.hid (HFI.out i HC.out)
      have HTD := Lib.hid (fun k (h0 : 0 < k) (h1 : k ≤ m) => turn_down (l := d) (m := m) (k := k) h0 h1 (by omega))
      have HLT := Lib.hid (fun k => (turnL_len d k m (m + 1)).trans hld)
      clear HMO HFI HPD
      go_wp2_with fail
      go_loopw [17] (fun vk wx => ∃ k : Nat, vk = .int .i64 (k : Int) ∧ i ≤ k ∧ k ≤ m ∧ Hid (OwnNods 60 wx W0.heap.size (.slice (some ⟨g, 0, none⟩) n cap) (turnL d k m (m + 1))) ∧ Hid (Below W0.heap.size W0 wx)) (fun vk _ => (intOf vk).toNat)
      case atStart => exact ⟨m, rfl, by omega, by omega, Lib.hid (by rw [turnL_none _ _ _ (by omega)]; exact HO.out), HB⟩
      case round =>
        obtain ⟨k, rfl, hk1, hk2, HO1, HB1⟩ := hrel
        by_cases hlk : i < k
        · have HSW := Lib.hid (HO1.out.swap (HLT.out _) (i := k) (j := k - 1) (by omega) (by omega) HB1.out)
          rw [HTD.out k (by omega) hk2] at HSW
          have hl := HLT.out k
          generalize turnL d k m (m + 1) = s at *
          generalize hs1 : turnL d (k - 1) m (m + 1) = s1 at *
          have HS1 := Lib.hid hs1
          clear hs1
          obtain ⟨kk, hkk0⟩ : ∃ kk, k - 1 = kk := ⟨_, rfl⟩
          rw [hkk0] at HSW
          have hkk : (k : Int) - 1 = (kk : Int) := by omega
          obtain ⟨x0, x1, x2, x3, x4, x5, x6, x7, x8, x9, x10, x11⟩ := HO1.out.nodAtN hl (k := k) (by omega)
          obtain ⟨y0, y1, y2, y3, y4, y5, y6, y7, y8, y9, y10, y11⟩ := HO1.out.nodAtN hl (k := kk) (by omega)
          generalize nk s k = X at *
          generalize nk s kk = Y at *
          have xf0 := HO1.out.frozenAtN hl (k * 12)
          have xf1 := HO1.out.frozenAtN hl (k * 12 + 1)
          have xf2 := HO1.out.frozenAtN hl (k * 12 + 2)
          have xf3 := HO1.out.frozenAtN hl (k * 12 + 3)
          have xf4 := HO1.out.frozenAtN hl (k * 12 + 4)
          have xf5 := HO1.out.frozenAtN hl (k * 12 + 5)
          have xf6 := HO1.out.frozenAtN hl (k * 12 + 6)
          have xf7 := HO1.out.frozenAtN hl (k * 12 + 7)
          have xf8 := HO1.out.frozenAtN hl (k * 12 + 8)
          have xf9 := HO1.out.frozenAtN hl (k * 12 + 9)
          have xf10 := HO1.out.frozenAtN hl (k * 12 + 10)
          have xf11 := HO1.out.frozenAtN hl (k * 12 + 11)
          have yf0 := HO1.out.frozenAtN hl (kk * 12)
          have yf1 := HO1.out.frozenAtN hl (kk * 12 + 1)
          have yf2 := HO1.out.frozenAtN hl (kk * 12 + 2)
          have yf3 := HO1.out.frozenAtN hl (kk * 12 + 3)
          have yf4 := HO1.out.frozenAtN hl (kk * 12 + 4)
          have yf5 := HO1.out.frozenAtN hl (kk * 12 + 5)
          have yf6 := HO1.out.frozenAtN hl (kk * 12 + 6)
          have yf7 := HO1.out.frozenAtN hl (kk * 12 + 7)
          have yf8 := HO1.out.frozenAtN hl (kk * 12 + 8)
          have yf9 := HO1.out.frozenAtN hl (kk * 12 + 9)
          have yf10 := HO1.out.frozenAtN hl (kk * 12 + 10)
          have yf11 := HO1.out.frozenAtN hl (kk * 12 + 11)
          have HKK := Lib.hid hkk0
          clear hkk0 HO1 HB1
          go_upto_region 23 with fail
          go_region
          generalize (setNode (setNode wr g (k * 12) Y) g (kk * 12) X).drew = W9 at *
          go_wp2
          go_roundw
          case rel =>
            have hkk0 := HKK.out
            exact ⟨k - 1, by go_num, by omega, by omega, Lib.hid (by rw [HS1.out]; exact HSW.out.1), Lib.hid HSW.out.2⟩
          case measure =>
            have hkk0 := HKK.out
            simp [intOf]; omega
        · obtain rfl : k = i := by omega
          rw [HRES.out] at HO1
          go_wp2
          (try simp only [Exit.inBlock, Exit.then])
          refine bodyPost_ret (results_none rfl _ _ _) rfl ?_
          exact ⟨rfl, HO1.out, HB1.out⟩
end Go.Proofs.YtaffgndickdbiaaDoor
