/-
  Texts: SymCA, Chunk.
-/
import Derived.Test.YtaffgndickdbiaaDoorT12
set_option linter.unusedVariables false
set_option linter.unusedSimpArgs false
set_option linter.unusedSectionVars false
namespace Go.Proofs.YtaffgndickdbiaaDoor
open Go.Creel Go.RowKit
abbrev SymCallA (g cap n : Nat) (w : World) (a m b : Nat) (Q : Ending → World → Prop) : Prop := Calls Tryd.prog 109 #[(.slice (some ⟨g, 0, none⟩) n cap), .int .i64 a, .int .i64 m, .int .i64 b, (.func (.func 50) #[] #[])] w Q
set_option maxRecDepth 100000 in
set_option maxHeartbeats 8000000 in
theorem SymCA_any (W0 : World) (g cap n N : Nat) (IH : SymSays (SymCallA g cap n) 60 W0 g cap n N) (p l r q : List Nod) (w : World) (hN : l.length + r.length ≤ N + 1) (h : OwnNods 60 w W0.heap.size (.slice (some ⟨g, 0, none⟩) n cap) (p ++ (l ++ (r ++ q)))) (hm : (p ++ (l ++ (r ++ q))).length = n) (hn : n ≤ cap) (hc : cap ≤ maxLen) (hfew : n ≤ 8000000000) (hp : PathsOk (p ++ (l ++ (r ++ q)))) (hM : MaxOk W0) (hB : Below W0.heap.size W0 w) (hl : l.Pairwise PathLe) (hr : r.Pairwise PathLe) (hl2 : 1 < l.length) (hr2 : 1 < r.length) (a m b : Nat) (ha : a = p.length) (hmm : m = p.length + l.length) (hb : b = p.length + l.length + r.length) :
    Calls Tryd.prog 109 #[(.slice (some ⟨g, 0, none⟩) n cap), .int .i64 a, .int .i64 m, .int .i64 b, (.func (.func 50) #[] #[])] w fun e w' => e = .returned (.tuple #[]) ∧ OwnNods 60 w' W0.heap.size (.slice (some ⟨g, 0, none⟩) n cap) (p ++ (isort (l ++ r) ++ q)) ∧ Below W0.heap.size W0 w' := by
  have hbn : b ≤ n := by rw [← hm]; simp only [List.length_append]; omega
  have ham : a + 1 < m := by omega
  have hmb : m + 1 < b := by omega
  have hbN : b ≤ a + (N + 1) := by omega
  obtain ⟨mid, hmid⟩ : ∃ mid, mid = (a + b) / 2 := ⟨_, rfl⟩
  have HGT := Lib.hid (symB_gt (a := a) (m := m) (b := b) (mid := mid) (by omega) (by omega) hmid)
  have HLE := Lib.hid (symB_le (a := a) (m := m) (b := b) (mid := mid) (by omega) (by omega) hmid)
  have HMO := Lib.hid (fun lo hi (B : SymB a m b mid lo hi) k h h1 h2 h3 hf => symF_mono (p := p) (l := l) (r := r) (q := q) ha hmm hb hl hr B (k := k) (h := h) h1 h2 h3 hf)
  have HCUT := Lib.hid (fun lo hi s (B : SymB a m b mid lo hi) C => symC_cut (p := p) (l := l) (r := r) (q := q) (s := s) ha hmm hb hl hr B C)
  have HTN := Lib.hid (fun s h1 h2 h3 h4 => symC_turn (p := p) (l := l) (r := r) (q := q) (a := a) (m := m) (mid := mid) (s := s) ha hmm h1 h2 h3 h4)
  have HROT := Lib.hid (fun (d : List Nod) (a c b : Nat) (w : World) h hm h1 h2 h3 hB => Rotate_any W0 g cap n d a c b (.func (.func 50) #[] #[]) w h hm hn hc h1 h2 h3 hB)
  have HIH := Lib.hid IH
  have HLR := Lib.hid (And.intro hl hr)
  have HLN := Lib.hid (And.intro ha (And.intro hmm hb))
  have HPP := Lib.hid hp
  have HLL := Lib.hid hm
  unfold maxLen at hc
  have H := Lib.hid h
  have HB0 := Lib.hid hB
  have HM := Lib.hid hM
  have hent := enter_of Tryd.func50 (by kernel_rfl) (by kernel_rfl)
  have hmd1 : 2 * mid ≤ a + b := by omega
  have hmd2 : a + b ≤ 2 * mid + 1 := by omega
  have hmdi : ((a : Int) + (b : Int)) / 2 = (mid : Int) := by omega
  clear h hB hM hp hl hr ha hmm hb hm IH hN hl2 hr2 hmid
  have hma1 : (((m : Int) - (a : Int)) == 1) = false := by rw [beq_eq_false_iff_ne]; omega
  have hbm1 : (((b : Int) - (m : Int)) == 1) = false := by rw [beq_eq_false_iff_ne]; omega
  go_enter Tryd.func109, Tryd.ntmps109
  go_upto_if 140 with fail
  generalize hkb : decide ((mid : Int) < (m : Int)) = kb at *
  have HKB := Lib.hid hkb
  clear hkb
  go_cut [20, 21] from 141 to 146 (fun u20 u21 wy => ∃ lo hi : Nat, u20 = .int .i64 (lo : Int) ∧ u21 = .int .i64 (hi : Int) ∧ Hid (SymB a m b mid lo hi) ∧ wy = w)
  case first =>
    cases kb with
    | true =>
      have hg : mid < m := by have := of_decide_eq_true HKB.out; omega
      go_wp2
      go_meet
      exact ⟨mid + m - b, mid, by go_num, rfl, Lib.hid (HGT.out hg), rfl⟩
    | false =>
      have hg : m ≤ mid := by have := of_decide_eq_false HKB.out; omega
      go_wp2
      go_meet
      exact ⟨a, m, rfl, rfl, Lib.hid (HLE.out hg), rfl⟩
  case rest =>
  obtain ⟨lo, hi, rfl, rfl, HSB, rfl⟩ := hcut
  obtain ⟨w, rfl⟩ : ∃ W : World, W = wc := ⟨_, rfl⟩
  obtain ⟨b1, b2, b3, b4, b5, _, _⟩ := HSB.out
  clear HGT HLE HKB
  have HMO := Lib.hid (fun k h h1 h2 h3 hf => HMO.out lo hi HSB.out k h h1 h2 h3 hf)
  have HCUT := Lib.hid (fun s C => HCUT.out lo hi s HSB.out C)
  have HISL := Lib.hid (isort_len (l ++ r))
  generalize hd : p ++ (l ++ (r ++ q)) = d at *
  have HD := Lib.hid hd
  clear hd
  have hld := HLL.out
  go_wp2_with fail
  go_loopw [20, 21, 23] (fun vi vj _ wr => ∃ i j : Nat, vi = .int .i64 (i : Int) ∧ vj = .int .i64 (j : Int) ∧ Hid (Cut2 (SymF d (mid + m)) lo hi i j) ∧ Hid (OwnNods 60 wr W0.heap.size (.slice (some ⟨g, 0, none⟩) n cap) d) ∧ Hid (Below W0.heap.size W0 wr)) (fun vi vj _ _ => (intOf vj).toNat - (intOf vi).toNat)
  case atStart => exact ⟨lo, hi, rfl, rfl, Lib.hid (Cut2.start (by omega)), H, HB0⟩
  case round =>
    obtain ⟨i, j, rfl, rfl, HC, HO, HB⟩ := hrel
    have hi1 := HC.out.lo_le
    have hi2 := HC.out.le
    have hi3 := HC.out.le_hi
    by_cases hlt : i < j
    · obtain ⟨hh1, hh2⟩ := halfS_lt hlt
      go_upto_region 35 with fail
      rw [show ((i : Int) + (j : Int)) / 2 = (((i + j) / 2 : Nat) : Int) by omega]
      generalize (i + j) / 2 = h at *
      obtain ⟨k, hk0⟩ : ∃ k, mid + m - 1 - h = k := ⟨_, rfl⟩
      have hkk : (mid : Int) + (m : Int) - 1 - (h : Int) = (k : Int) := by omega
      have hwk : IntKind.i64.wrap (k : Int) = (k : Int) := by rw [IntKind.wrap_i64]; omega
      have hhi : (h : Int) < (n : Int) := by omega
      have hki : (k : Int) < (n : Int) := by omega
      have HCMP := Lib.hid (fun w hM => SortCmpA_any (nk d k) (nk d h) w hM (HPP.out.at (by omega)) (HPP.out.at (by omega)))
      have HNX := Lib.hid (HO.out.nodAtN hld (k := k) (by omega))
      have HNY := Lib.hid (HO.out.nodAtN hld (k := h) (by omega))
      have HUP := Lib.hid (fun (hf : SymF d (mid + m) h) => HC.out.up hh1 hh2 (fun k h1 h2 h3 => HMO.out k h h1 h2 (by omega) h3) hf)
      have HDW := Lib.hid (fun (hf : ¬ SymF d (mid + m) h) => HC.out.down hh1 hh2 (fun k h1 h2 h3 => HMO.out h k (by omega) h1 h2 h3) hf)
      have HFE : Hid (SymF d (mid + m) h ↔ ¬ ordN (nk d k) (nk d h) < 0) := Lib.hid (by unfold SymF; rw [hk0])
      clear hk0
      generalize nk d k = X at *
      generalize nk d h = Y at *
      obtain ⟨x0, x1, x2, x3, x4, x5, x6, x7, x8, x9, x10, x11⟩ := HNX.out
      obtain ⟨y0, y1, y2, y3, y4, y5, y6, y7, y8, y9, y10, y11⟩ := HNY.out
      generalize ordN X Y = c at *
      go_still_tail 11, (by kernel_rfl)
      go_wp2_with fail
      refine (HCMP.out _ ((HM.out.below HB.out).below (Below.refl _ _).drew)).mono ?_
      rintro e wc ⟨rfl, hb⟩
      have HBC := Lib.hid ((Below.refl wr.heap.size wr).drew.trans hb)
      clear hb x0 x1 x2 x3 x4 x5 x6 x7 x8 x9 x10 x11 y0 y1 y2 y3 y4 y5 y6 y7 y8 y9 y10 y11
      have HO2 := Lib.hid (HO.out.below HBC.out)
      have HB2 := Lib.hid (HB.out.trans (HBC.out.mono HB.out.size))
      by_cases hc0 : c < 0
      · have HX := Lib.hid (HDW.out (fun hf => absurd (HFE.out.1 hf) (by omega)))
        have hcd : decide (c < 0) = true := decide_eq_true hc0
        clear HUP HDW HFE
        go_wp2
        go_roundw
        case rel => exact ⟨i, h, rfl, rfl, HX, HO2, HB2⟩
        case measure => simp [intOf]; omega
      · have HX := Lib.hid (HUP.out (HFE.out.2 (by omega)))
        have hcd : decide (c < 0) = false := decide_eq_false hc0
        have hcz : 0 ≤ c := by omega
        clear HUP HDW HFE
        go_wp2
        go_roundw
        case rel => exact ⟨h + 1, j, by go_num, rfl, HX, HO2, HB2⟩
        case measure => simp [intOf]; omega
    · obtain rfl : i = j := by omega
      have HSRT := Lib.hid (HCUT.out i HC.out)
      obtain ⟨la, lm, lb⟩ := HLN.out
      have HTN := Lib.hid (HTN.out i (by omega) (by omega) (by omega) (by omega))
      obtain ⟨en, hen⟩ : ∃ en, mid + m - i = en := ⟨_, rfl⟩
      have heni : (mid : Int) + (m : Int) - (i : Int) = (en : Int) := by omega
      have hE1 : i < m ↔ mid < en := by omega
      have hE2 : m < en ↔ i < mid := by omega
      have hE3 : en + i ≤ mid + m := by omega
      have hE4 : mid + m ≤ en + i := by omega
      have hE5 : en ≤ b := by omega
      rw [hen] at HTN
      have HP1 := Lib.hid (HPP.out.turn (a := i) (m := m) (b := en) (by omega) (by omega) (by omega))
      have HN1 := Lib.hid ((turnL_len d i m en).trans hld)
      have l1 : (l.take (i - a)).length = i - a := by rw [List.length_take]; omega
      have l2 : (l.drop (i - a)).length = m - i := by rw [List.length_drop]; omega
      have l3 : (r.take (mid - i)).length = mid - i := by rw [List.length_take]; omega
      have l4 : (r.drop (mid - i)).length = b - en := by rw [List.length_drop]; omega
      have HS := Lib.hid (And.intro (sorted_take HLR.out.1 (i - a)) (And.intro (sorted_drop HLR.out.1 (i - a)) (And.intro (sorted_take HLR.out.2 (mid - i)) (sorted_drop HLR.out.2 (mid - i)))))
      have HSM := Lib.hid (show ¬ (i < m ∧ m < en) → turnL d i m en = d from fun hx => by
        by_cases e : i < m
        · rw [show en = m by omega]; exact turnL_zero d i m
        · rw [show i = m by omega]; exact turnL_none d m en (by omega))
      rw [HTN.out] at HP1 HN1 HSM
      have HRT := Lib.hid (fun h1 h2 => HROT.out d i m en wr HO.out hld h1 h2 (by omega) HB.out)
      rw [HTN.out] at HRT
      have HLA := Lib.hid (And.intro la (And.intro lm lb))
      clear HMO HCUT hen HTN HROT la lm lb
      generalize l.take (i - a) = L1 at *
      generalize l.drop (i - a) = L2 at *
      generalize r.take (mid - i) = R1 at *
      generalize r.drop (mid - i) = R2 at *
      go_upto_region 39 with fail
      go_cut [185] from 178 to 185 (fun u wy => u = .bool (decide (i < m ∧ m < en)) ∧ wy = wr)
      case first =>
        by_cases h1 : i < m
        · have h1i : decide ((i : Int) < (m : Int)) = true := decide_eq_true (by omega)
          by_cases h2 : m < en
          · have h2i : decide ((m : Int) < (en : Int)) = true := decide_eq_true (by omega)
            have HQ := Lib.hid (decide_eq_true (And.intro h1 h2))
            clear hE1 hE2
            go_wp2
            go_meet
            exact ⟨by rw [HQ.out], rfl⟩
          · have h2i : decide ((m : Int) < (en : Int)) = false := decide_eq_false (by omega)
            have HQ := Lib.hid (decide_eq_false (fun e : i < m ∧ m < en => h2 e.2))
            clear hE1 hE2
            go_wp2
            go_meet
            exact ⟨by rw [HQ.out], rfl⟩
        · have h1i : decide ((i : Int) < (m : Int)) = false := decide_eq_false (by omega)
          have HQ := Lib.hid (decide_eq_false (fun e : i < m ∧ m < en => h1 e.1))
          clear hE1 hE2
          go_wp2
          go_meet
          exact ⟨by rw [HQ.out], rfl⟩
      case rest =>
      obtain ⟨rfl, rfl⟩ := hcut
      obtain ⟨wr, rfl⟩ : ∃ W : World, W = wc := ⟨_, rfl⟩
      generalize hk1 : decide (i < m ∧ m < en) = k1 at *
      have HK1 := Lib.hid hk1
      clear hk1
      go_step
      go_cut [185] from 186 to 191 (fun _ wy => Hid (OwnNods 60 wy W0.heap.size (.slice (some ⟨g, 0, none⟩) n cap) (p ++ (L1 ++ (R1 ++ (L2 ++ (R2 ++ q)))))) ∧ Hid (Below W0.heap.size W0 wy))
      case first =>
        cases k1 with
        | true =>
          have hx := of_decide_eq_true HK1.out
          have HR := Lib.hid (HRT.out hx.1 hx.2)
          clear hx hE1 hE2
          go_wp2_with fail
          refine HR.out.mono ?_
          rintro e w2 ⟨rfl, ho, hb⟩
          have HO2 := Lib.hid ho
          have HB2 := Lib.hid hb
          clear ho hb
          go_wp2
          go_meet
          exact ⟨HO2, HB2⟩
        | false =>
          have HX := Lib.hid (HSM.out (of_decide_eq_false HK1.out))
          clear hE1 hE2
          go_wp2
          go_meet
          exact ⟨Lib.hid (by rw [HX.out]; exact HO.out), HB⟩
      case rest =>
      obtain ⟨HO1, HB1⟩ := hcut
      obtain ⟨wv, rfl⟩ : ∃ W : World, W = wc := ⟨_, rfl⟩
      clear HRT HSM HO HB HK1 HC HSB
      go_upto_region 41 with fail
      go_cut [199] from 192 to 199 (fun u wy => u = .bool (decide (a < i ∧ i < mid)) ∧ wy = wv)
      case first =>
        by_cases h1 : a < i
        · have h1i : decide ((a : Int) < (i : Int)) = true := decide_eq_true (by omega)
          by_cases h2 : i < mid
          · have h2i : decide ((i : Int) < (mid : Int)) = true := decide_eq_true (by omega)
            have HQ := Lib.hid (decide_eq_true (And.intro h1 h2))
            clear hE1 hE2
            go_wp2
            go_meet
            exact ⟨by rw [HQ.out], rfl⟩
          · have h2i : decide ((i : Int) < (mid : Int)) = false := decide_eq_false (by omega)
            have HQ := Lib.hid (decide_eq_false (fun e : a < i ∧ i < mid => h2 e.2))
            clear hE1 hE2
            go_wp2
            go_meet
            exact ⟨by rw [HQ.out], rfl⟩
        · have h1i : decide ((a : Int) < (i : Int)) = false := decide_eq_false (by omega)
          have HQ := Lib.hid (decide_eq_false (fun e : a < i ∧ i < mid => h1 e.1))
          clear hE1 hE2
          go_wp2
          go_meet
          exact ⟨by rw [HQ.out], rfl⟩
      case rest =>
      obtain ⟨rfl, rfl⟩ := hcut
      obtain ⟨wv, rfl⟩ : ∃ W : World, W = wc := ⟨_, rfl⟩
      generalize hk1 : decide (a < i ∧ i < mid) = k1 at *
      have HK1 := Lib.hid hk1
      clear hk1
      go_step
      go_cut [199] from 200 to 205 (fun _ wy => Hid (OwnNods 60 wy W0.heap.size (.slice (some ⟨g, 0, none⟩) n cap) (p ++ (isort (L1 ++ R1) ++ (L2 ++ (R2 ++ q))))) ∧ Hid (Below W0.heap.size W0 wy))
      case first =>
        cases k1 with
        | true =>
          have hx := of_decide_eq_true HK1.out
          obtain ⟨la, lm, lb⟩ := HLA.out
          have HR := Lib.hid (HIH.out p L1 R1 (L2 ++ (R2 ++ q)) wv (by omega) HO1.out HN1.out HP1.out HB1.out HS.out.1 HS.out.2.2.1 (by omega) (by omega) a i mid la (by omega) (by omega))
          clear hx hE1 hE2 la lm lb
          go_wp2_with fail
          refine HR.out.mono ?_
          rintro e w2 ⟨rfl, ho, hb⟩
          have HO2 := Lib.hid ho
          have HB2 := Lib.hid hb
          clear ho hb
          go_wp2
          go_meet
          exact ⟨HO2, HB2⟩
        | false =>
          have hx := of_decide_eq_false HK1.out
          have HX := Lib.hid (isort_none (l := L1) (r := R1) (by
            by_cases e : a < i
            · exact .inr (List.eq_nil_of_length_eq_zero (by omega))
            · exact .inl (List.eq_nil_of_length_eq_zero (by omega))) HS.out.1 HS.out.2.2.1)
          clear hx hE1 hE2
          go_wp2
          go_meet
          exact ⟨Lib.hid (by rw [HX.out, List.append_assoc]; exact HO1.out), HB1⟩
      case rest =>
      obtain ⟨HO2, HB2⟩ := hcut
      obtain ⟨wy, rfl⟩ : ∃ W : World, W = wc := ⟨_, rfl⟩
      have HP2 := Lib.hid (show PathsOk (p ++ (isort (L1 ++ R1) ++ (L2 ++ (R2 ++ q)))) from HP1.out.perm (fun x hx => by
        simp only [List.mem_append, isort_mem] at hx ⊢
        rcases hx with e | (e | e) | e | e | e <;> simp [e]))
      have HN2 := Lib.hid (show (p ++ (isort (L1 ++ R1) ++ (L2 ++ (R2 ++ q)))).length = n by
        rw [← HN1.out]; simp only [List.length_append, isort_len]; omega)
      have ls : (isort (L1 ++ R1)).length = mid - a := by rw [isort_len, List.length_append]; omega
      generalize isort (L1 ++ R1) = s1 at *
      have e2 : p ++ (s1 ++ (L2 ++ (R2 ++ q))) = (p ++ s1) ++ (L2 ++ (R2 ++ q)) := by rw [List.append_assoc]
      have lps : (p ++ s1).length = mid := by obtain ⟨la, lm, lb⟩ := HLA.out; rw [List.length_append]; omega
      rw [e2] at HO2 HP2 HN2
      have HFIN := Lib.hid (show (p ++ s1) ++ (isort (L2 ++ R2) ++ q) = p ++ (isort (l ++ r) ++ q) by rw [← HSRT.out]; simp)
      clear HO1 HB1 HP1 HN1 HK1 e2
      go_upto_region 43 with fail
      go_cut [213] from 206 to 213 (fun u wx => u = .bool (decide (mid < en ∧ en < b)) ∧ wx = wy)
      case first =>
        by_cases h1 : mid < en
        · have h1i : decide ((mid : Int) < (en : Int)) = true := decide_eq_true (by omega)
          by_cases h2 : en < b
          · have h2i : decide ((en : Int) < (b : Int)) = true := decide_eq_true (by omega)
            have HQ := Lib.hid (decide_eq_true (And.intro h1 h2))
            clear hE1 hE2
            go_wp2
            go_meet
            exact ⟨by rw [HQ.out], rfl⟩
          · have h2i : decide ((en : Int) < (b : Int)) = false := decide_eq_false (by omega)
            have HQ := Lib.hid (decide_eq_false (fun e : mid < en ∧ en < b => h2 e.2))
            clear hE1 hE2
            go_wp2
            go_meet
            exact ⟨by rw [HQ.out], rfl⟩
        · have h1i : decide ((mid : Int) < (en : Int)) = false := decide_eq_false (by omega)
          have HQ := Lib.hid (decide_eq_false (fun e : mid < en ∧ en < b => h1 e.1))
          clear hE1 hE2
          go_wp2
          go_meet
          exact ⟨by rw [HQ.out], rfl⟩
      case rest =>
      obtain ⟨rfl, rfl⟩ := hcut
      obtain ⟨wy, rfl⟩ : ∃ W : World, W = wc := ⟨_, rfl⟩
      generalize hk1 : decide (mid < en ∧ en < b) = k1 at *
      have HK1 := Lib.hid hk1
      clear hk1
      cases k1 with
      | true =>
        have hx := of_decide_eq_true HK1.out
        obtain ⟨la, lm, lb⟩ := HLA.out
        have HR := Lib.hid (HIH.out (p ++ s1) L2 R2 q wy (by omega) HO2.out HN2.out HP2.out HB2.out HS.out.2.1 HS.out.2.2.2 (by omega) (by omega) mid en b lps.symm (by omega) (by omega))
        rw [HFIN.out] at HR
        clear hx hE1 hE2 la lm lb
        go_wp2_with fail
        refine HR.out.mono ?_
        rintro e w2 ⟨rfl, ho, hb⟩
        have HO3 := Lib.hid ho
        have HB3 := Lib.hid hb
        clear ho hb
        go_wp2
        go_end0
        exact ⟨rfl, HO3.out, HB3.out⟩
      | false =>
        have hx := of_decide_eq_false HK1.out
        have HX := Lib.hid (isort_none (l := L2) (r := R2) (by
          by_cases e : mid < en
          · exact .inr (List.eq_nil_of_length_eq_zero (by omega))
          · exact .inl (List.eq_nil_of_length_eq_zero (by omega))) HS.out.2.1 HS.out.2.2.2)
        have HO3 := Lib.hid (show OwnNods 60 wy W0.heap.size (.slice (some ⟨g, 0, none⟩) n cap) (p ++ (isort (l ++ r) ++ q)) by rw [← HFIN.out, HX.out, List.append_assoc L2]; exact HO2.out)
        clear hx hE1 hE2
        go_wp2
        go_end0
        exact ⟨rfl, HO3.out, HB2.out⟩
end Go.Proofs.YtaffgndickdbiaaDoor
namespace Go.Creel
open Go.RowKit
def chunkF : Nat → Nat → List Nod → List Nod
  | 0, _, l => isort l
  | k + 1, s, l => if s < l.length then isort (l.take s) ++ chunkF k s (l.drop s) else isort l
theorem chunkF_end {k s : Nat} {l : List Nod} (h : l.length ≤ s) : chunkF k s l = isort l := by
  cases k with
  | zero => rfl
  | succ k => unfold chunkF; rw [if_neg (by omega)]
theorem chunkF_eq {s : Nat} (hs : 0 < s) : ∀ (k j : Nat) (l : List Nod), l.length ≤ k → l.length ≤ j → chunkF k s l = chunkF j s l
  | 0, j, l, h, _ => by
    rw [chunkF_end (k := j) (by omega)]; rfl
  | k + 1, 0, l, _, h => by
    rw [chunkF_end (k := k + 1) (by omega)]; rfl
  | k + 1, j + 1, l, h1, h2 => by
    unfold chunkF
    by_cases h : s < l.length
    · rw [if_pos h, if_pos h, chunkF_eq hs k j (l.drop s) (by rw [List.length_drop]; omega) (by rw [List.length_drop]; omega)]
    · rw [if_neg h, if_neg h]
def chunkSort (s : Nat) (l : List Nod) : List Nod := chunkF l.length s l
theorem chunk_end {s : Nat} {l : List Nod} (h : l.length ≤ s) : chunkSort s l = isort l := chunkF_end h
theorem chunk_step {s : Nat} {l : List Nod} (hs : 0 < s) (h : s ≤ l.length) : chunkSort s l = isort (l.take s) ++ chunkSort s (l.drop s) := by
  have hl : (l.drop s).length = l.length - s := List.length_drop ..
  by_cases e : s < l.length
  · obtain ⟨k, hk⟩ : ∃ k, l.length = k + 1 := ⟨l.length - 1, by omega⟩
    unfold chunkSort
    rw [hk]
    conv => lhs; unfold chunkF
    rw [if_pos e, chunkF_eq hs k (l.drop s).length (l.drop s) (by omega) (Nat.le_refl _)]
  · rw [chunk_end (by omega), chunk_end (by omega), List.take_of_length_le (by omega), List.drop_eq_nil_of_le (by omega)]
    exact (List.append_nil _).symm
theorem chunkF_len (s : Nat) : ∀ (k : Nat) (l : List Nod), (chunkF k s l).length = l.length
  | 0, l => isort_len l
  | k + 1, l => by
    unfold chunkF
    split
    · rw [List.length_append, isort_len, chunkF_len s k, List.length_take, List.length_drop]; omega
    · exact isort_len l
theorem chunk_len (s : Nat) (l : List Nod) : (chunkSort s l).length = l.length := chunkF_len s _ l
theorem chunkF_mem (s : Nat) {x : Nod} : ∀ (k : Nat) (l : List Nod), x ∈ chunkF k s l → x ∈ l
  | 0, l, h => isort_mem.1 h
  | k + 1, l, h => by
    unfold chunkF at h
    split at h
    · rcases List.mem_append.1 h with h | h
      · exact List.mem_of_mem_take (isort_mem.1 h)
      · exact List.mem_of_mem_drop (chunkF_mem s k _ h)
    · exact isort_mem.1 h
theorem chunk_mem {s : Nat} {x : Nod} {l : List Nod} (h : x ∈ chunkSort s l) : x ∈ l := chunkF_mem s _ l h
theorem PathsOk.chunk {s : Nat} {l : List Nod} (h : PathsOk l) : PathsOk (chunkSort s l) := fun x hx => h x (chunk_mem hx)
theorem PathsOk.both {l m : List Nod} : PathsOk (l ++ m) ↔ PathsOk l ∧ PathsOk m := by
  unfold PathsOk
  simp only [List.mem_append]
  exact ⟨fun h => ⟨fun x hx => h x (.inl hx), fun x hx => h x (.inr hx)⟩, fun h x hx => hx.elim (h.1 x) (h.2 x)⟩
theorem chunk_open {s : Nat} {l : List Nod} (hs : 0 < s) (h : 2 * s ≤ l.length) : chunkSort s l = isort (l.take s) ++ (isort ((l.drop s).take s) ++ chunkSort s (l.drop (2 * s))) := by
  rw [chunk_step hs (by omega), chunk_step (l := l.drop s) hs (by rw [List.length_drop]; omega), List.drop_drop, show s + s = 2 * s by omega]
theorem chunk_pair {s : Nat} {l : List Nod} : isort (isort (l.take s) ++ isort ((l.drop s).take s)) = isort (l.take (2 * s)) := by
  rw [isort_parts, ← List.take_add, show s + s = 2 * s by omega]
theorem chunk_last {s : Nat} {l : List Nod} (hs : 0 < s) (h : s ≤ l.length) (h2 : l.length ≤ 2 * s) : chunkSort s l = isort (l.take s) ++ isort (l.drop s) := by
  rw [chunk_step hs h, chunk_end (l := l.drop s) (by rw [List.length_drop]; omega)]
theorem chunk_merged {s : Nat} {l : List Nod} (h2 : l.length ≤ 2 * s) : isort (isort (l.take s) ++ isort (l.drop s)) = chunkSort (2 * s) l := by
  rw [isort_parts, List.take_append_drop, chunk_end h2]
theorem chunk_double {s : Nat} {l : List Nod} (h : l.length ≤ s) : chunkSort s l = chunkSort (2 * s) l := by rw [chunk_end h, chunk_end (by omega)]
end Go.Creel
