/-
  Texts: NodsPut, Enter, SwapR, InsL, SymPlain, SymAB, SymC.
-/
import Derived.Test.YtaffgndickdbiaaDoorT10
import Derived.BigRegion
set_option linter.unusedVariables false
set_option linter.unusedSimpArgs false
set_option linter.unusedSectionVars false
namespace Go.Creel
open Go.RowKit
theorem grownBy_trans {w w1 w2 : World} {row : Option Nat} (h1 : w.grownBy w1 row) (h2 : w1.grownBy w2 row) : w.grownBy w2 row := by
  obtain ⟨a1, a2, a3, a4, a5⟩ := h1
  obtain ⟨b1, b2, b3, b4, b5⟩ := h2
  exact ⟨b1.trans a1, b2.trans a2, b3.trans a3, Nat.le_trans a4 b4, fun k hk hne => (b5 k (Nat.lt_of_lt_of_le hk a4) hne).trans (a5 k hk hne)⟩
theorem set_self (m : List Nod) (k : Nat) (hk : k < m.length) : m.set k (nk m k) = m := by
  rw [nk_eq hk, List.set_getElem_self]
theorem row_step {t : TypeId} {w0 w : World} {B g cap k j : Nat} {m : List Nod} {y : Nod} (h : w.ownsRow B t 12 (.slice (some ⟨g, 0, none⟩) m.length cap) m.length ((m.set k y).flatMap Nod.cells) ∧ w0.grownBy w (some g)) (hk : k < m.length) (hj : j < 12) (y' : Nod) (u : Value) (hy : y'.cells = y.cells.set j u) :
    (w.setCell ⟨g, k * 12 + j, none⟩ u).ownsRow B t 12 (.slice (some ⟨g, 0, none⟩) m.length cap) m.length ((m.set k y').flatMap Nod.cells) ∧ w0.grownBy (w.setCell ⟨g, k * 12 + j, none⟩ u) (some g) := by
  obtain ⟨h1, h2⟩ := h.1.stored (k * 12 + j) u
  rw [flat_set (m.set k y) k j y' u (by rw [List.length_set]; exact hk) hj (by rw [nk_set hk, if_pos rfl]; exact hy), List.set_set] at h1
  exact ⟨h1, grownBy_trans h.2 h2⟩
abbrev setNode (w : World) (g o : Nat) (x : Nod) : World := (((((((((((w.setCell ⟨g, o, none⟩ (.string x.path)).setCell ⟨g, o + 1, none⟩ (.int .i64 x.kind)).setCell ⟨g, o + 2, none⟩ (.int .i64 x.same)).setCell ⟨g, o + 3, none⟩ (.string x.target)).setCell ⟨g, o + 4, none⟩ (.int .i64 x.mt.mode)).setCell ⟨g, o + 5, none⟩ (.int .i64 x.mt.uid)).setCell ⟨g, o + 6, none⟩ (.int .i64 x.mt.gid)).setCell ⟨g, o + 7, none⟩ (.string x.mt.user)).setCell ⟨g, o + 8, none⟩ (.string x.mt.group)).setCell ⟨g, o + 9, none⟩ (.int .i64 x.mt.second)).setCell ⟨g, o + 10, none⟩ (.int .i64 x.mt.nano)).setCell ⟨g, o + 11, none⟩ (.slice x.da x.data.length x.dcap)
theorem OwnNods.putNode {t : TypeId} {w : World} {B g cap k n : Nat} {m : List Nod} {x : Nod} (h : OwnNods t w B (.slice (some ⟨g, 0, none⟩) n cap) m) (hm : m.length = n) (hk : k < n) (hx : NodIn w (.slice (some ⟨g, 0, none⟩) n cap) x) :
    OwnNods t (setNode w g (k * 12) x) B (.slice (some ⟨g, 0, none⟩) n cap) (m.set k x) ∧ w.grownBy (setNode w g (k * 12) x) (some g) := by
  subst hm
  have h0 : w.ownsRow B t 12 (.slice (some ⟨g, 0, none⟩) m.length cap) m.length ((m.set k (nk m k)).flatMap Nod.cells) ∧ w.grownBy w (some g) := ⟨by rw [set_self m k hk]; exact h.1, World.grownBy.refl w _⟩
  generalize nk m k = y at h0
  obtain ⟨p, kd, sm, tg, mt, da, dc, dt⟩ := y
  obtain ⟨a1, a2, a3, a4, a5, a6, a7⟩ := mt
  have s0 := row_step h0 hk (j := 0) (by omega) ⟨x.path, kd, sm, tg, ⟨a1, a2, a3, a4, a5, a6, a7⟩, da, dc, dt⟩ (.string x.path) rfl
  have s1 := row_step s0 hk (j := 1) (by omega) ⟨x.path, x.kind, sm, tg, ⟨a1, a2, a3, a4, a5, a6, a7⟩, da, dc, dt⟩ (.int .i64 x.kind) rfl
  have s2 := row_step s1 hk (j := 2) (by omega) ⟨x.path, x.kind, x.same, tg, ⟨a1, a2, a3, a4, a5, a6, a7⟩, da, dc, dt⟩ (.int .i64 x.same) rfl
  have s3 := row_step s2 hk (j := 3) (by omega) ⟨x.path, x.kind, x.same, x.target, ⟨a1, a2, a3, a4, a5, a6, a7⟩, da, dc, dt⟩ (.string x.target) rfl
  have s4 := row_step s3 hk (j := 4) (by omega) ⟨x.path, x.kind, x.same, x.target, ⟨x.mt.mode, a2, a3, a4, a5, a6, a7⟩, da, dc, dt⟩ (.int .i64 x.mt.mode) rfl
  have s5 := row_step s4 hk (j := 5) (by omega) ⟨x.path, x.kind, x.same, x.target, ⟨x.mt.mode, x.mt.uid, a3, a4, a5, a6, a7⟩, da, dc, dt⟩ (.int .i64 x.mt.uid) rfl
  have s6 := row_step s5 hk (j := 6) (by omega) ⟨x.path, x.kind, x.same, x.target, ⟨x.mt.mode, x.mt.uid, x.mt.gid, a4, a5, a6, a7⟩, da, dc, dt⟩ (.int .i64 x.mt.gid) rfl
  have s7 := row_step s6 hk (j := 7) (by omega) ⟨x.path, x.kind, x.same, x.target, ⟨x.mt.mode, x.mt.uid, x.mt.gid, x.mt.user, a5, a6, a7⟩, da, dc, dt⟩ (.string x.mt.user) rfl
  have s8 := row_step s7 hk (j := 8) (by omega) ⟨x.path, x.kind, x.same, x.target, ⟨x.mt.mode, x.mt.uid, x.mt.gid, x.mt.user, x.mt.group, a6, a7⟩, da, dc, dt⟩ (.string x.mt.group) rfl
  have s9 := row_step s8 hk (j := 9) (by omega) ⟨x.path, x.kind, x.same, x.target, ⟨x.mt.mode, x.mt.uid, x.mt.gid, x.mt.user, x.mt.group, x.mt.second, a7⟩, da, dc, dt⟩ (.int .i64 x.mt.second) rfl
  have s10 := row_step s9 hk (j := 10) (by omega) ⟨x.path, x.kind, x.same, x.target, ⟨x.mt.mode, x.mt.uid, x.mt.gid, x.mt.user, x.mt.group, x.mt.second, x.mt.nano⟩, da, dc, dt⟩ (.int .i64 x.mt.nano) rfl
  have s11 := row_step s10 hk (j := 11) (by omega) x (.slice x.da x.data.length x.dcap) rfl
  refine ⟨⟨by rw [List.length_set]; exact s11.1, fun z hz => ?_⟩, s11.2⟩
  have hin : NodIn w (.slice (some ⟨g, 0, none⟩) m.length cap) z := by
    rcases List.mem_or_eq_of_mem_set hz with a | a
    · exact h.2 z a
    · rw [a]; exact hx
  exact ⟨hin.1.grown s11.2 hin.2, hin.2⟩
theorem OwnNods.nodAtN {t : TypeId} {w : World} {B g cap n k : Nat} {m : List Nod} (h : OwnNods t w B (.slice (some ⟨g, 0, none⟩) n cap) m) (hm : m.length = n) (hk : k < n) : NodAt w g (k * 12) (nk m k) := by
  subst hm
  exact h.nodAt hk
theorem OwnNods.nodInN {t : TypeId} {w : World} {B g cap n k : Nat} {m : List Nod} (h : OwnNods t w B (.slice (some ⟨g, 0, none⟩) n cap) m) (hm : m.length = n) (hk : k < n) : NodIn w (.slice (some ⟨g, 0, none⟩) n cap) (nk m k) := by
  subst hm
  exact h.nodIn hk
theorem OwnNods.frozenAtN {t : TypeId} {w : World} {B g cap n : Nat} {m : List Nod} (h : OwnNods t w B (.slice (some ⟨g, 0, none⟩) n cap) m) (hm : m.length = n) (j : Nat) : w.frozen? ⟨g, j, none⟩ = false := by
  subst hm
  exact h.1.frozenAt j
theorem enter_of {P : Program} {f : FuncId} {fn : Func} (hf : P.funcs[f]? = some fn) (hname : (fn.name == "runtime.NumGoroutine") = false) (hb : fn.body.isSome = true) (args : Array Value) (w : World) :
    (callFunc f args).run P w = .ok (.enter f args) w := by
  have h1 : fn.name ≠ "runtime.NumGoroutine" := by simpa using hname
  obtain ⟨c, hc⟩ := Option.isSome_iff_exists.1 hb
  simp [callFunc, hf, h1, hc]
open Go.RowKit
theorem below_grownR {B : Nat} {w0 w w' : World} {g : Nat} (h : Below B w0 w) (hg : w.grownBy w' (some g)) (hB : B ≤ w.heap.size) (hr : B ≤ g) : Below B w0 w' := h.grown hg hB (fun k hk => by cases hk; exact hr)
theorem OwnNods.swap {t : TypeId} {w w0 : World} {B g cap n i j : Nat} {m : List Nod} (h : OwnNods t w B (.slice (some ⟨g, 0, none⟩) n cap) m) (hm : m.length = n) (hi : i < n) (hj : j < n) (hb : Below B w0 w) :
    OwnNods t (setNode (setNode w g (i * 12) (nk m j)) g (j * 12) (nk m i)).drew B (.slice (some ⟨g, 0, none⟩) n cap) ((m.set i (nk m j)).set j (nk m i)) ∧ Below B w0 (setNode (setNode w g (i * 12) (nk m j)) g (j * 12) (nk m i)).drew := by
  have h1 := h.putNode hm hi (h.nodInN hm hj)
  have hy := h.nodInN hm hi
  have h2 := h1.1.putNode (by rw [List.length_set]; exact hm) hj (x := nk m i) ⟨hy.1.grown h1.2 hy.2, hy.2⟩
  have hg := World.ownsRow.lt h.1 g rfl
  obtain ⟨_, _, _, hsz, _⟩ := id h1.2
  have hB2 := below_grownR (below_grownR hb h1.2 (Nat.le_of_lt (Nat.lt_of_le_of_lt hg.1 hg.2)) hg.1) h2.2 (Nat.le_trans (Nat.le_of_lt (Nat.lt_of_le_of_lt hg.1 hg.2)) hsz) hg.1
  exact ⟨h2.1.below (Below.refl _ _).drew, hB2.drew⟩
end Go.Creel
namespace Go.Proofs.YtaffgndickdbiaaDoor
open Go.Creel Go.RowKit
set_option maxRecDepth 100000 in
set_option maxHeartbeats 4000000 in
theorem SwapRange_any (W0 : World) (g cap n : Nat) (m : List Nod) (a b k : Nat) (f : Value) (w : World) (h : OwnNods 60 w W0.heap.size (.slice (some ⟨g, 0, none⟩) n cap) m) (hm : m.length = n) (hn : n ≤ cap) (hc : cap ≤ maxLen) (h1 : a + k ≤ b) (h2 : b + k ≤ n) (hB : Below W0.heap.size W0 w) :
    Calls Tryd.prog 137 #[(.slice (some ⟨g, 0, none⟩) n cap), .int .i64 a, .int .i64 b, .int .i64 k, f] w fun e w' => e = .returned (.tuple #[]) ∧ OwnNods 60 w' W0.heap.size (.slice (some ⟨g, 0, none⟩) n cap) (swapL m a b k) ∧ Below W0.heap.size W0 w' := by
  unfold maxLen at hc
  have H := Lib.hid h
  have HB0 := Lib.hid hB
  have HM := Lib.hid hm
  clear h hB hm
  go_enter Tryd.func137, Tryd.ntmps137
  go_wp2_with fail
  go_loopw [10] (fun i wr => ∃ q : Nat, q ≤ k ∧ i = .int .i64 (q : Int) ∧ Hid (OwnNods 60 wr W0.heap.size (.slice (some ⟨g, 0, none⟩) n cap) (swapL m a b q)) ∧ Hid (Below W0.heap.size W0 wr)) (fun i _ => k - (intOf i).toNat)
  case atStart => exact ⟨0, by omega, rfl, Lib.hid (by rw [swapL_zero]; exact H.out), HB0⟩
  case round =>
    obtain ⟨q, hq, rfl, HO, HB⟩ := hrel
    by_cases hlt : q < k
    · have HST := Lib.hid (swapL_step (l := m) (a := a) (b := b) (i := q) (by omega) (by have := HM.out; omega))
      have hl : (swapL m a b q).length = n := by rw [swapL_len]; exact HM.out
      generalize swapL m a b q = s at *
      obtain ⟨i, hi⟩ : ∃ i, a + q = i := ⟨_, rfl⟩
      obtain ⟨j, hj⟩ : ∃ j, b + q = j := ⟨_, rfl⟩
      have hii : (a : Int) + (q : Int) = (i : Int) := by omega
      have hjj : (b : Int) + (q : Int) = (j : Int) := by omega
      have hin : i < n := by omega
      have hjn : j < n := by omega
      rw [hi, hj] at HST
      clear hi hj
      have HSW := Lib.hid (HO.out.swap hl hin hjn HB.out)
      obtain ⟨x0, x1, x2, x3, x4, x5, x6, x7, x8, x9, x10, x11⟩ := HO.out.nodAtN hl (k := i) (by omega)
      have xf0 := HO.out.frozenAtN hl (i * 12)
      have xf1 := HO.out.frozenAtN hl (i * 12 + 1)
      have xf2 := HO.out.frozenAtN hl (i * 12 + 2)
      have xf3 := HO.out.frozenAtN hl (i * 12 + 3)
      have xf4 := HO.out.frozenAtN hl (i * 12 + 4)
      have xf5 := HO.out.frozenAtN hl (i * 12 + 5)
      have xf6 := HO.out.frozenAtN hl (i * 12 + 6)
      have xf7 := HO.out.frozenAtN hl (i * 12 + 7)
      have xf8 := HO.out.frozenAtN hl (i * 12 + 8)
      have xf9 := HO.out.frozenAtN hl (i * 12 + 9)
      have xf10 := HO.out.frozenAtN hl (i * 12 + 10)
      have xf11 := HO.out.frozenAtN hl (i * 12 + 11)
      obtain ⟨y0, y1, y2, y3, y4, y5, y6, y7, y8, y9, y10, y11⟩ := HO.out.nodAtN hl (k := j) (by omega)
      have yf0 := HO.out.frozenAtN hl (j * 12)
      have yf1 := HO.out.frozenAtN hl (j * 12 + 1)
      have yf2 := HO.out.frozenAtN hl (j * 12 + 2)
      have yf3 := HO.out.frozenAtN hl (j * 12 + 3)
      have yf4 := HO.out.frozenAtN hl (j * 12 + 4)
      have yf5 := HO.out.frozenAtN hl (j * 12 + 5)
      have yf6 := HO.out.frozenAtN hl (j * 12 + 6)
      have yf7 := HO.out.frozenAtN hl (j * 12 + 7)
      have yf8 := HO.out.frozenAtN hl (j * 12 + 8)
      have yf9 := HO.out.frozenAtN hl (j * 12 + 9)
      have yf10 := HO.out.frozenAtN hl (j * 12 + 10)
      have yf11 := HO.out.frozenAtN hl (j * 12 + 11)
      rw [HST.out] at HSW
      clear HST
      generalize nk s i = x at *
      generalize nk s j = y at *
      generalize hsl : swapL m a b (q + 1) = s1 at *
      have HSL := Lib.hid hsl
      clear hsl
      go_upto_region 3 with fail
      go_region
      go_wp2
      go_roundw
      case rel => exact ⟨q + 1, by omega, by go_num, Lib.hid (by rw [HSL.out]; exact HSW.out.1), Lib.hid HSW.out.2⟩
      case measure => simp [intOf]; omega
    · obtain rfl : q = k := by omega
      go_wp2
      go_end0
      exact ⟨rfl, HO.out, HB.out⟩
set_option maxRecDepth 100000 in
set_option maxHeartbeats 4000000 in
theorem Rotate_any (W0 : World) (g cap n : Nat) (m : List Nod) (a c b : Nat) (f : Value) (w : World) (h : OwnNods 60 w W0.heap.size (.slice (some ⟨g, 0, none⟩) n cap) m) (hm : m.length = n) (hn : n ≤ cap) (hc : cap ≤ maxLen) (h1 : a < c) (h2 : c < b) (h3 : b ≤ n) (hB : Below W0.heap.size W0 w) :
    Calls Tryd.prog 118 #[(.slice (some ⟨g, 0, none⟩) n cap), .int .i64 a, .int .i64 c, .int .i64 b, f] w fun e w' => e = .returned (.tuple #[]) ∧ OwnNods 60 w' W0.heap.size (.slice (some ⟨g, 0, none⟩) n cap) (turnL m a c b) ∧ Below W0.heap.size W0 w' := by
  have HSWP := Lib.hid (fun (s : List Nod) (a b k : Nat) (w : World) h hm h1 h2 hB => SwapRange_any W0 g cap n s a b k f w h hm hn hc h1 h2 hB)
  unfold maxLen at hc
  have H := Lib.hid h
  have HB0 := Lib.hid hB
  have HM := Lib.hid hm
  clear h hB hm
  go_enter Tryd.func118, Tryd.ntmps118
  go_wp2_with fail
  go_loopw [10, 11] (fun vi vj wr => ∃ (i j : Nat) (s : List Nod), vi = .int .i64 (i : Int) ∧ vj = .int .i64 (j : Int) ∧ 0 < i ∧ 0 < j ∧ i ≤ c - a ∧ j ≤ b - c ∧ s.length = n ∧ Hid (turnL s (c - i) c (c + j) = turnL m a c b) ∧ Hid (OwnNods 60 wr W0.heap.size (.slice (some ⟨g, 0, none⟩) n cap) s) ∧ Hid (Below W0.heap.size W0 wr)) (fun vi vj _ => (intOf vi).toNat + (intOf vj).toNat)
  case atStart => exact ⟨c - a, b - c, m, by go_num, by go_num, by omega, by omega, by omega, by omega, HM.out, Lib.hid (by rw [show c - (c - a) = a by omega, show c + (b - c) = b by omega]), H, HB0⟩
  case round =>
    obtain ⟨i, j, s, rfl, rfl, hi0, hj0, hi, hj, hs, HT, HO, HB⟩ := hrel
    obtain ⟨ci, hci⟩ : ∃ ci, c - i = ci := ⟨_, rfl⟩
    have hcc : (c : Int) - (i : Int) = (ci : Int) := by omega
    have hne : ((i : Int) != (j : Int)) = decide (i ≠ j) := by
      by_cases e : i = j
      · rw [e]; simp
      · rw [decide_eq_true e, bne_iff_ne]; omega
    by_cases he : i = j
    · subst he
      have hne : ((i : Int) != (i : Int)) = false := by simp
      have HSW := Lib.hid (fun (w : World) h hB => HSWP.out s ci c i w h hs (by omega) (by omega) hB)
      have HQ := Lib.hid (turn_swap_same (l := s) (m := c) (i := i) (by omega) (by omega))
      rw [hci] at HQ HT
      go_wp2_with fail
      refine (HSW.out _ HO.out HB.out).mono ?_
      rintro e w2 ⟨rfl, ho, hb⟩
      have HO2 := Lib.hid ho
      have HB2 := Lib.hid hb
      clear ho hb
      go_wp2
      go_end0
      exact ⟨rfl, by rw [← HT.out, ← HQ.out]; exact HO2.out, HB2.out⟩
    · have hnt : ((i : Int) != (j : Int)) = true := by rw [bne_iff_ne]; omega
      clear hne
      by_cases hg : j < i
      · have HSW := Lib.hid (fun (w : World) h hB => HSWP.out s ci c j w h hs (by omega) (by omega) hB)
        have HQ := Lib.hid (turn_swap_left (l := s) (m := c) (i := i) (j := j) hg (by omega) (by omega) hj0)
        rw [hci] at HQ HT
        go_wp2_with fail
        refine (HSW.out _ HO.out HB.out).mono ?_
        rintro e w2 ⟨rfl, ho, hb⟩
        have HO2 := Lib.hid ho
        have HB2 := Lib.hid hb
        clear ho hb
        go_wp2
        go_roundw
        case rel => exact ⟨i - j, j, _, by go_num, rfl, by omega, by omega, by omega, by omega, by rw [swapL_len]; exact hs, Lib.hid (HQ.out.trans HT.out), HO2, HB2⟩
        case measure => simp [intOf]; omega
      · obtain ⟨cj, hcj⟩ : ∃ cj, c + j - i = cj := ⟨_, rfl⟩
        have hcjj : (c : Int) + (j : Int) - (i : Int) = (cj : Int) := by omega
        have HSW := Lib.hid (fun (w : World) h hB => HSWP.out s ci cj i w h hs (by omega) (by omega) hB)
        have HQ := Lib.hid (turn_swap_right (l := s) (m := c) (i := i) (j := j) (by omega) (by omega) (by omega) hi0)
        rw [hci, hcj] at HQ
        rw [hci] at HT
        have hci2 := hci
        go_wp2_with fail
        refine (HSW.out _ HO.out HB.out).mono ?_
        rintro e w2 ⟨rfl, ho, hb⟩
        have HO2 := Lib.hid ho
        have HB2 := Lib.hid hb
        clear ho hb
        go_wp2
        go_roundw
        case rel => exact ⟨i, j - i, _, rfl, by go_num, by omega, by omega, by omega, by omega, by rw [swapL_len]; exact hs, Lib.hid (by rw [hci2]; exact HQ.out.trans HT.out), HO2, HB2⟩
        case measure => simp [intOf]; omega
end Go.Proofs.YtaffgndickdbiaaDoor
namespace Go.Creel
open Go.RowKit
def PathsOk (l : List Nod) : Prop := ∀ x ∈ l, x.path.size ≤ 1048576
theorem PathsOk.at {l : List Nod} (h : PathsOk l) {k : Nat} (hk : k < l.length) : (nk l k).path.size ≤ 1048576 := h _ (by rw [nk_eq hk]; exact List.getElem_mem hk)
theorem PathsOk.placed {l : List Nod} {p : Nat → Nat} (h : PathsOk l) (hp : ∀ k, k < l.length → p k < l.length) : PathsOk (placed l p) := by
  intro x hx
  obtain ⟨k, hk, rfl⟩ := mem_nk hx
  rw [placed_len] at hk
  rw [placed_at hk]
  exact h.at (hp k hk)
theorem PathsOk.turn {l : List Nod} {a m b : Nat} (h : PathsOk l) (h1 : a ≤ m) (h2 : m ≤ b) (h3 : b ≤ l.length) : PathsOk (turnL l a m b) := h.placed fun k hk => by
  unfold turnIx
  repeat' split
  all_goals omega
theorem PathsOk.parts {p x q : List Nod} : PathsOk (p ++ (x ++ q)) ↔ PathsOk p ∧ PathsOk x ∧ PathsOk q := by
  unfold PathsOk
  simp only [List.mem_append]
  constructor
  · intro h; exact ⟨fun y hy => h y (.inl hy), fun y hy => h y (.inr (.inl hy)), fun y hy => h y (.inr (.inr hy))⟩
  · rintro ⟨h1, h2, h3⟩ y (hy | hy | hy)
    · exact h1 y hy
    · exact h2 y hy
    · exact h3 y hy
theorem PathsOk.isort {l : List Nod} (h : PathsOk l) : PathsOk (isort l) := fun x hx => h x (isort_mem.1 hx)
theorem turn_at {l : List Nod} {j i : Nat} (h1 : j ≤ i) (h2 : i < l.length) : nk (turnL l j i (i + 1)) j = nk l i := by
  unfold turnL
  rw [placed_at (by omega)]
  congr 1
  unfold turnIx
  rw [if_pos (by omega), if_pos (by omega)]
  omega
theorem turn_ahead {l : List Nod} {j i : Nat} (h0 : 0 < j) (h1 : j ≤ i) (h2 : i < l.length) : nk (turnL l j i (i + 1)) (j - 1) = nk l (j - 1) := by
  unfold turnL
  rw [placed_at (by omega)]
  congr 1
  unfold turnIx
  rw [if_neg (by omega)]
def insS (p x q : List Nod) (k : Nat) : List Nod := p ++ (isort (x.take k) ++ (x.drop k ++ q))
theorem insS_len {p x q : List Nod} {k : Nat} : (insS p x q k).length = (p ++ (x ++ q)).length := by
  unfold insS
  simp only [List.length_append, isort_len, List.length_take, List.length_drop]
  omega
theorem insS_one (p x q : List Nod) : insS p x q 1 = p ++ (x ++ q) := by
  unfold insS
  cases x with
  | nil => rfl
  | cons a r => rfl
theorem insS_all (p x q : List Nod) {k : Nat} (h : x.length ≤ k) : insS p x q k = p ++ (isort x ++ q) := by
  unfold insS
  rw [List.take_of_length_le h, List.drop_eq_nil_of_le h]
  rfl
theorem insS_at {p x q : List Nod} {k : Nat} (hk : k < x.length) : nk (insS p x q k) (p.length + k) = nk x k := by
  unfold insS
  have hl : (isort (x.take k)).length = k := by rw [isort_len, List.length_take]; omega
  rw [nk_app, if_neg (by omega), nk_app, if_neg (by omega), nk_app, if_pos (by rw [List.length_drop]; omega), nk_drop]
  congr 1
  omega
theorem insS_old {p x q : List Nod} {k j : Nat} (hk : k ≤ x.length) (hj : j < k) : nk (insS p x q k) (p.length + j) = nk (isort (x.take k)) j := by
  unfold insS
  have hl : (isort (x.take k)).length = k := by rw [isort_len, List.length_take]; omega
  rw [nk_app, if_neg (by omega), nk_app, if_pos (by omega)]
  congr 1
  omega
theorem insS_paths {p x q : List Nod} {k : Nat} (h : PathsOk (p ++ (x ++ q))) : PathsOk (insS p x q k) := by
  rw [PathsOk.parts] at h
  unfold insS
  rw [PathsOk.parts]
  refine ⟨h.1, PathsOk.isort fun y hy => h.2.1 y (List.mem_of_mem_take hy), fun y hy => ?_⟩
  rcases List.mem_append.1 hy with hy | hy
  · exact h.2.1 y (List.mem_of_mem_drop hy)
  · exact h.2.2 y hy
open Go.RowKit
theorem nk_left {p l r : List Nod} {c : Nat} (h1 : p.length ≤ c) (h2 : c < p.length + l.length) : nk (p ++ (l ++ r)) c = nk l (c - p.length) := by
  rw [nk_app, if_neg (by omega), nk_app, if_pos (by omega)]
theorem nk_right {p l r q : List Nod} {c : Nat} (h1 : p.length + l.length ≤ c) (h2 : c < p.length + l.length + r.length) : nk (p ++ (l ++ (r ++ q))) c = nk r (c - (p.length + l.length)) := by
  rw [nk_app, if_neg (by omega), nk_app, if_neg (by omega), nk_app, if_pos (by omega)]
  congr 1
  omega
theorem symA_done {p r q : List Nod} {y : Nod} {s : Nat} (hr : r.Pairwise PathLe) (hs : s ≤ r.length) (h1 : ∀ k, k < s → ordN (nk r k) y < 0) (h2 : ∀ k, s ≤ k → k < r.length → ¬ ordN (nk r k) y < 0) :
    turnL (p ++ ([y] ++ (r ++ q))) p.length (p.length + 1) (p.length + s + 1) = p ++ (isort ([y] ++ r) ++ q) := by
  have e := turnL_parts (p := p) (u := [y]) (v := r.take s) (q := r.drop s ++ q)
  have l1 : (r.take s).length = s := by rw [List.length_take]; omega
  rw [l1, ← List.append_assoc (r.take s), List.take_append_drop, show ([y] : List Nod).length = 1 from rfl, show p.length + 1 + s = p.length + s + 1 by omega] at e
  rw [e]
  have hr' : (r.take s ++ r.drop s).Pairwise PathLe := by rw [List.take_append_drop]; exact hr
  have f := isort_first (x := y) hr' (fun z hz => by
    obtain ⟨k, hk, rfl⟩ := mem_nk hz
    rw [l1] at hk
    rw [nk_take hk]
    exact h1 k hk) (fun z hz => by
    obtain ⟨k, hk, rfl⟩ := mem_nk hz
    rw [List.length_drop] at hk
    rw [nk_drop]
    have := h2 (s + k) (by omega) (by omega)
    rw [ordN_lt0] at this
    exact Classical.byContradiction this)
  rw [List.take_append_drop] at f
  rw [show [y] ++ r = y :: r from rfl, ← f]
  simp
theorem symB_done {p l q : List Nod} {y : Nod} {s : Nat} (hl : l.Pairwise PathLe) (hs : s ≤ l.length) (h1 : ∀ k, k < s → ¬ ordN y (nk l k) < 0) (h2 : ∀ k, s ≤ k → k < l.length → ordN y (nk l k) < 0) :
    turnL (p ++ (l ++ ([y] ++ q))) (p.length + s) (p.length + l.length) (p.length + l.length + 1) = p ++ (isort (l ++ [y]) ++ q) := by
  have e := turnL_parts (p := p ++ l.take s) (u := l.drop s) (v := [y]) (q := q)
  have l1 : (p ++ l.take s).length = p.length + s := by rw [List.length_append, List.length_take]; omega
  have l2 : (l.drop s).length = l.length - s := List.length_drop ..
  rw [l1, l2, show p.length + s + (l.length - s) = p.length + l.length by omega, show ([y] : List Nod).length = 1 from rfl] at e
  have e1 : p ++ l.take s ++ (l.drop s ++ ([y] ++ q)) = p ++ (l ++ ([y] ++ q)) := by
    rw [List.append_assoc, ← List.append_assoc (l.take s), List.take_append_drop]
  rw [e1] at e
  rw [e]
  have hl' : (l.take s ++ l.drop s).Pairwise PathLe := by rw [List.take_append_drop]; exact hl
  have f := isort_last (y := y) hl' (fun z hz => by
    obtain ⟨k, hk, rfl⟩ := mem_nk hz
    rw [List.length_take] at hk
    rw [nk_take (by omega)]
    have := h1 k (by omega)
    rw [ordN_lt0] at this
    exact Classical.byContradiction this) (fun z hz => by
    obtain ⟨k, hk, rfl⟩ := mem_nk hz
    rw [List.length_drop] at hk
    rw [nk_drop]
    exact h2 (s + k) (by omega) (by omega))
  rw [List.take_append_drop] at f
  rw [← f]
  simp
structure Cut2 (f : Nat → Prop) (lo hi i j : Nat) : Prop where
  lo_le : lo ≤ i
  le : i ≤ j
  le_hi : j ≤ hi
  yes : ∀ k, lo ≤ k → k < i → f k
  no : ∀ k, j ≤ k → k < hi → ¬ f k
theorem Cut2.start {f : Nat → Prop} {lo hi : Nat} (h : lo ≤ hi) : Cut2 f lo hi lo hi := ⟨Nat.le_refl _, h, Nat.le_refl _, fun k h1 h2 => absurd h2 (by omega), fun k h1 h2 => absurd h2 (by omega)⟩
theorem Cut2.up {f : Nat → Prop} {lo hi i j h : Nat} (c : Cut2 f lo hi i j) (h1 : i ≤ h) (h2 : h < j) (hm : ∀ k, lo ≤ k → k ≤ h → f h → f k) (hf : f h) : Cut2 f lo hi (h + 1) j :=
  ⟨by have := c.lo_le; omega, by omega, c.le_hi, fun k a b => hm k a (by omega) hf, c.no⟩
theorem Cut2.down {f : Nat → Prop} {lo hi i j h : Nat} (c : Cut2 f lo hi i j) (h1 : i ≤ h) (h2 : h < j) (hm : ∀ k, h ≤ k → k < hi → f k → f h) (hf : ¬ f h) : Cut2 f lo hi i h :=
  ⟨c.lo_le, h1, by have := c.le_hi; omega, c.yes, fun k a b e => hf (hm k a b e)⟩
structure SymB (a m b mid lo hi : Nat) : Prop where
  a_lo : a ≤ lo
  lo_hi : lo ≤ hi
  hi_m : hi ≤ m
  hi_mid : hi ≤ mid
  end_lo : mid + m ≤ lo + b
  lo_is : lo + b = mid + m ∨ lo = a
  hi_is : hi = mid ∨ hi = m
theorem symB_gt {a m b mid : Nat} (h1 : a < m) (h2 : m < b) (hm : mid = (a + b) / 2) (h : mid < m) : SymB a m b mid (mid + m - b) mid := by
  refine ⟨?_, ?_, ?_, ?_, ?_, ?_, ?_⟩ <;> omega
theorem symB_le {a m b mid : Nat} (h1 : a < m) (h2 : m < b) (hm : mid = (a + b) / 2) (h : m ≤ mid) : SymB a m b mid a m := by
  refine ⟨?_, ?_, ?_, ?_, ?_, ?_, ?_⟩ <;> omega
def SymF (d : List Nod) (e c : Nat) : Prop := ¬ ordN (nk d (e - 1 - c)) (nk d c) < 0
theorem symF_mono {p l r q : List Nod} {a m b mid lo hi : Nat} (ha : a = p.length) (hm : m = p.length + l.length) (hb : b = p.length + l.length + r.length) (hl : l.Pairwise PathLe) (hr : r.Pairwise PathLe) (B : SymB a m b mid lo hi)
    {k h : Nat} (h1 : lo ≤ k) (h2 : k ≤ h) (h3 : h < hi) (hf : SymF (p ++ (l ++ (r ++ q))) (mid + m) h) : SymF (p ++ (l ++ (r ++ q))) (mid + m) k := by
  obtain ⟨b1, b2, b3, b4, b5, _, _⟩ := B
  unfold SymF at hf ⊢
  rw [ordN_lt0] at hf ⊢
  rw [nk_left (by omega) (by omega), nk_right (by omega) (by omega)] at hf ⊢
  have g : PathLe (nk l (h - p.length)) (nk r (mid + m - 1 - h - (p.length + l.length))) := Classical.byContradiction hf
  refine fun e => e (ordN_le_trans (nk_sorted hl (by omega) (by omega)) (ordN_le_trans g (nk_sorted hr (by omega) (by omega))))
theorem symC_cut {p l r q : List Nod} {a m b mid lo hi s : Nat} (ha : a = p.length) (hm : m = p.length + l.length) (hb : b = p.length + l.length + r.length) (hl : l.Pairwise PathLe) (hr : r.Pairwise PathLe) (B : SymB a m b mid lo hi)
    (C : Cut2 (SymF (p ++ (l ++ (r ++ q))) (mid + m)) lo hi s s) :
    isort (l.take (s - a) ++ r.take (mid - s)) ++ isort (l.drop (s - a) ++ r.drop (mid - s)) = isort (l ++ r) := by
  obtain ⟨b1, b2, b3, b4, b5, b6, b7⟩ := B
  obtain ⟨c1, _, c2, c3, c4⟩ := C
  refine merge_cut hl hr (by omega) (by omega) (fun h1 h2 => ?_) (fun h1 h2 => ?_)
  · have hs : lo < s := by rcases b6 with e | e <;> omega
    have f := c3 (s - 1) (by omega) (by omega)
    unfold SymF at f
    rw [nk_left (c := s - 1) (by omega) (by omega), nk_right (by omega) (by omega)] at f
    rw [show mid - s = mid + m - 1 - (s - 1) - (p.length + l.length) by omega, show s - a - 1 = s - 1 - p.length by omega]
    exact f
  · have hs : s < hi := by rcases b7 with e | e <;> omega
    have f := c4 s (Nat.le_refl _) hs
    unfold SymF at f
    rw [nk_left (c := s) (by omega) (by omega), nk_right (by omega) (by omega)] at f
    rw [show mid - s - 1 = mid + m - 1 - s - (p.length + l.length) by omega, show s - a = s - p.length by omega]
    exact Classical.byContradiction f
theorem symC_turn {p l r q : List Nod} {a m mid s : Nat} (ha : a = p.length) (hm : m = p.length + l.length) (h1 : a ≤ s) (h2 : s ≤ m) (h3 : s ≤ mid) (h4 : mid - s ≤ r.length) :
    turnL (p ++ (l ++ (r ++ q))) s m (mid + m - s) = p ++ (l.take (s - a) ++ (r.take (mid - s) ++ (l.drop (s - a) ++ (r.drop (mid - s) ++ q)))) := by
  have e := turnL_parts (p := p ++ l.take (s - a)) (u := l.drop (s - a)) (v := r.take (mid - s)) (q := r.drop (mid - s) ++ q)
  have l1 : (p ++ l.take (s - a)).length = s := by rw [List.length_append, List.length_take]; omega
  have l2 : (l.drop (s - a)).length = m - s := by rw [List.length_drop]; omega
  have l3 : (r.take (mid - s)).length = mid - s := by rw [List.length_take]; omega
  rw [l1, l2, l3, show s + (m - s) = m by omega, show m + (mid - s) = mid + m - s by omega] at e
  have e1 : p ++ l.take (s - a) ++ (l.drop (s - a) ++ (r.take (mid - s) ++ (r.drop (mid - s) ++ q))) = p ++ (l ++ (r ++ q)) := by
    rw [List.append_assoc, ← List.append_assoc (l.take (s - a)), List.take_append_drop, ← List.append_assoc (r.take (mid - s)), List.take_append_drop]
  rw [e1] at e
  rw [e, List.append_assoc]
open Go.RowKit
theorem halfS_lt {i j : Nat} (h : i < j) : i ≤ (i + j) / 2 ∧ (i + j) / 2 < j := by omega
def SymFA (d : List Nod) (a c : Nat) : Prop := ordN (nk d c) (nk d a) < 0
def SymFB (d : List Nod) (m c : Nat) : Prop := ¬ ordN (nk d m) (nk d c) < 0
theorem symA_mono {p r q : List Nod} {y : Nod} {a m b : Nat} (ha : a = p.length) (hm : m = p.length + 1) (hb : b = p.length + 1 + r.length) (hr : r.Pairwise PathLe) {k h : Nat} (h1 : m ≤ k) (h2 : k ≤ h) (h3 : h < b) (hf : SymFA (p ++ ([y] ++ (r ++ q))) a h) : SymFA (p ++ ([y] ++ (r ++ q))) a k := by
  have l1 : ([y] : List Nod).length = 1 := rfl
  unfold SymFA at hf ⊢
  rw [nk_right (c := h) (by omega) (by omega)] at hf
  rw [nk_right (c := k) (by omega) (by omega)]
  exact lt_of_le_lt (nk_sorted hr (by omega) (by omega)) hf
theorem symA_fin {p r q : List Nod} {y : Nod} {a m b i : Nat} (ha : a = p.length) (hm : m = p.length + 1) (hb : b = p.length + 1 + r.length) (hr : r.Pairwise PathLe) (C : Cut2 (SymFA (p ++ ([y] ++ (r ++ q))) a) m b i i) :
    turnL (p ++ ([y] ++ (r ++ q))) a (a + 1) i = p ++ (isort ([y] ++ r) ++ q) := by
  obtain ⟨c1, _, c2, c3, c4⟩ := C
  have l1 : ([y] : List Nod).length = 1 := rfl
  have hy : nk (p ++ ([y] ++ (r ++ q))) a = y := by rw [nk_left (by omega) (by omega), show a - p.length = 0 by omega]; rfl
  have e := symA_done (p := p) (r := r) (q := q) (y := y) (s := i - m) hr (by omega) (fun k hk => by
    have f := c3 (m + k) (by omega) (by omega)
    unfold SymFA at f
    rw [hy, nk_right (by omega) (by omega), show m + k - (p.length + [y].length) = k by omega] at f
    exact f) (fun k hk hk2 => by
    have f := c4 (m + k) (by omega) (by omega)
    unfold SymFA at f
    rw [hy, nk_right (by omega) (by omega), show m + k - (p.length + [y].length) = k by omega] at f
    exact f)
  rw [← e, show p.length + (i - m) + 1 = i by omega, ha]
theorem symB_mono {p l q : List Nod} {y : Nod} {a m : Nat} (ha : a = p.length) (hm : m = p.length + l.length) (hl : l.Pairwise PathLe) {k h : Nat} (h1 : a ≤ k) (h2 : k ≤ h) (h3 : h < m) (hf : SymFB (p ++ (l ++ ([y] ++ q))) m h) : SymFB (p ++ (l ++ ([y] ++ q))) m k := by
  unfold SymFB at hf ⊢
  rw [ordN_lt0] at hf ⊢
  rw [nk_left (c := h) (by omega) (by omega)] at hf
  rw [nk_left (c := k) (by omega) (by omega)]
  have g : PathLe (nk l (h - p.length)) (nk (p ++ (l ++ ([y] ++ q))) m) := Classical.byContradiction hf
  exact fun e => e (ordN_le_trans (nk_sorted hl (by omega) (by omega)) g)
theorem symB_fin {p l q : List Nod} {y : Nod} {a m i : Nat} (ha : a = p.length) (hm : m = p.length + l.length) (hl : l.Pairwise PathLe) (C : Cut2 (SymFB (p ++ (l ++ ([y] ++ q))) m) a m i i) :
    turnL (p ++ (l ++ ([y] ++ q))) i m (m + 1) = p ++ (isort (l ++ [y]) ++ q) := by
  obtain ⟨c1, _, c2, c3, c4⟩ := C
  have l1 : ([y] : List Nod).length = 1 := rfl
  have hy : nk (p ++ (l ++ ([y] ++ q))) m = y := by rw [nk_right (by omega) (by omega), show m - (p.length + l.length) = 0 by omega]; rfl
  have e := symB_done (p := p) (l := l) (q := q) (y := y) (s := i - a) hl (by omega) (fun k hk => by
    have f := c3 (a + k) (by omega) (by omega)
    unfold SymFB at f
    rw [hy, nk_left (by omega) (by omega), show a + k - p.length = k by omega] at f
    exact f) (fun k hk hk2 => by
    have f := c4 (a + k) (by omega) (by omega)
    unfold SymFB at f
    rw [hy, nk_left (by omega) (by omega), show a + k - p.length = k by omega] at f
    exact Classical.byContradiction f)
  rw [← e, show p.length + (i - a) = i by omega, hm]
open Go.RowKit
theorem sorted_take {l : List Nod} (h : l.Pairwise PathLe) (k : Nat) : (l.take k).Pairwise PathLe := h.sublist (List.take_sublist k l)
theorem sorted_drop {l : List Nod} (h : l.Pairwise PathLe) (k : Nat) : (l.drop k).Pairwise PathLe := h.sublist (List.drop_sublist k l)
theorem isort_none {l r : List Nod} (h : l = [] ∨ r = []) (hl : l.Pairwise PathLe) (hr : r.Pairwise PathLe) : isort (l ++ r) = l ++ r := by
  rcases h with rfl | rfl
  · exact isort_id hr
  · rw [List.append_nil]; exact isort_id hl
theorem PathsOk.perm {l m : List Nod} (h : PathsOk l) (hm : ∀ x, x ∈ m → x ∈ l) : PathsOk m := fun x hx => h x (hm x hx)
abbrev SymSays (Calls1 : World → Nat → Nat → Nat → (Ending → World → Prop) → Prop) (t : TypeId) (W0 : World) (g cap n N : Nat) : Prop :=
  ∀ (p l r q : List Nod) (w : World), l.length + r.length ≤ N → OwnNods t w W0.heap.size (.slice (some ⟨g, 0, none⟩) n cap) (p ++ (l ++ (r ++ q))) → (p ++ (l ++ (r ++ q))).length = n → PathsOk (p ++ (l ++ (r ++ q))) → Below W0.heap.size W0 w →
    l.Pairwise PathLe → r.Pairwise PathLe → 0 < l.length → 0 < r.length → ∀ a m b : Nat, a = p.length → m = p.length + l.length → b = p.length + l.length + r.length →
    Calls1 w a m b fun e w' => e = .returned (.tuple #[]) ∧ OwnNods t w' W0.heap.size (.slice (some ⟨g, 0, none⟩) n cap) (p ++ (isort (l ++ r) ++ q)) ∧ Below W0.heap.size W0 w'
end Go.Creel
