/-
  Texts: SwapR, InsL, SymPlain.
-/
import Derived.Test.YtaffgndickdbiaaDoorS05
import Derived.BigRegion
set_option linter.unusedVariables false
set_option linter.unusedSimpArgs false
set_option linter.unusedSectionVars false
namespace Go.Creel
open Go.RowKit
theorem below_grownR {B : Nat} {w0 w w' : World} {g : Nat} (h : Below B w0 w) (hg : w.grownBy w' (some g)) (hB : B ≤ w.heap.size) (hr : B ≤ g) : Below B w0 w' := h.grown hg hB (fun k hk => by cases hk; exact hr)
theorem OwnNods.swap {t : TypeId} {w w0 : World} {B g cap n i j : Nat} {m : List Nod} (h : OwnNods t w B (.slice (some ⟨g, 0, none⟩) n cap) m) (hm : m.length = n) (hi : i < n) (hj : j < n) (hb : Below B w0 w) :
    OwnNods t (setNode (setNode w g (i * 12) (nk m j)) g (j * 12) (nk m i)).drew B (.slice (some ⟨g, 0, none⟩) n cap) ((m.set i (nk m j)).set j (nk m i)) ∧ Below B w0 (setNode (setNode w g (i * 12) (nk m j)) g (j * 12) (nk m i)).drew := by
  have h1 := h.putNode hm hi (h.nodInN hm hj)
  have hy := h.nodInN hm hi
  have h2 := h1.1.putNode (by rw [List.length_set]; exact hm) hj (x := nk m i) ⟨hy.1.grown h1.2 hy.2, hy.2⟩
  have hg := World.ownsRow.lt h.1 g rfl
  obtain ⟨_, _, _, hsz, _⟩ := id h1.2
  have hB2 := below_grownR (below_grownR hb h1.2 (Nat.le_of_lt (Nat.lt_of_le_of_lt hg.1 hg.2)) hg.1) h2.2 (Nat.le_trans (Nat.le_of_lt (Nat.lt_of_le_of_lt hg.1 hg.2)) hsz) hg.1
  exact ⟨h2.1.below (Below.refl _ _).drew, hB2.drew⟩
end Go.Creel
namespace Go.Proofs.YtaffgndickdbiaaDoor
open Go.Creel Go.RowKit
set_option maxRecDepth 100000 in
set_option maxHeartbeats 4000000 in
theorem SwapRange_any (W0 : World) (g cap n : Nat) (m : List Nod) (a b k : Nat) (f : Value) (w : World) (h : OwnNods 60 w W0.heap.size (.slice (some ⟨g, 0, none⟩) n cap) m) (hm : m.length = n) (hn : n ≤ cap) (hc : cap ≤ maxLen) (h1 : a + k ≤ b) (h2 : b + k ≤ n) (hB : Below W0.heap.size W0 w) :
    Calls Tryd.prog 137 #[(.slice (some ⟨g, 0, none⟩) n cap), .int .i64 a, .int .i64 b, .int .i64 k, f] w fun e w' => e = .returned (.tuple #[]) ∧ OwnNods 60 w' W0.heap.size (.slice (some ⟨g, 0, none⟩) n cap) (swapL m a b k) ∧ Below W0.heap.size W0 w' := by
  unfold maxLen at hc
  have H := Lib.hid h
  have HB0 := Lib.hid hB
  have HM := Lib.hid hm
  clear h hB hm
  go_enter Tryd.func137, Tryd.ntmps137
  go_wp2_with fail
  go_loopw [10] (fun i wr => ∃ q : Nat, q ≤ k ∧ i = .int .i64 (q : Int) ∧ Hid (OwnNods 60 wr W0.heap.size (.slice (some ⟨g, 0, none⟩) n cap) (swapL m a b q)) ∧ Hid (Below W0.heap.size W0 wr)) (fun i _ => k - (intOf i).toNat)
  case atStart => exact ⟨0, by omega, rfl, Lib.hid (by rw [swapL_zero]; exact H.out), HB0⟩
  case round =>
    obtain ⟨q, hq, rfl, HO, HB⟩ := hrel
    by_cases hlt : q < k
    · have HST := Lib.hid (swapL_step (l := m) (a := a) (b := b) (i := q) (by omega) (by have := HM.out; omega))
      have hl : (swapL m a b q).length = n := by rw [swapL_len]; exact HM.out
      generalize swapL m a b q = s at *
      obtain ⟨i, hi⟩ : ∃ i, a + q = i := ⟨_, rfl⟩
      obtain ⟨j, hj⟩ : ∃ j, b + q = j := ⟨_, rfl⟩
      have hii : (a : Int) + (q : Int) = (i : Int) := by omega
      have hjj : (b : Int) + (q : Int) = (j : Int) := by omega
      have hin : i < n := by omega
      have hjn : j < n := by omega
      rw [hi, hj] at HST
      clear hi hj
      have HSW := Lib.hid (HO.out.swap hl hin hjn HB.out)
      obtain ⟨x0, x1, x2, x3, x4, x5, x6, x7, x8, x9, x10, x11⟩ := HO.out.nodAtN hl (k := i) (by omega)
      have xf0 := HO.out.frozenAtN hl (i * 12)
      have xf1 := HO.out.frozenAtN hl (i * 12 + 1)
      have xf2 := HO.out.frozenAtN hl (i * 12 + 2)
      have xf3 := HO.out.frozenAtN hl (i * 12 + 3)
      have xf4 := HO.out.frozenAtN hl (i * 12 + 4)
      have xf5 := HO.out.frozenAtN hl (i * 12 + 5)
      have xf6 := HO.out.frozenAtN hl (i * 12 + 6)
      have xf7 := HO.out.frozenAtN hl (i * 12 + 7)
      have xf8 := HO.out.frozenAtN hl (i * 12 + 8)
      have xf9 := HO.out.frozenAtN hl (i * 12 + 9)
      have xf10 := HO.out.frozenAtN hl (i * 12 + 10)
      have xf11 := HO.out.frozenAtN hl (i * 12 + 11)
      obtain ⟨y0, y1, y2, y3, y4, y5, y6, y7, y8, y9, y10, y11⟩ := HO.out.nodAtN hl (k := j) (by omega)
      have yf0 := HO.out.frozenAtN hl (j * 12)
      have yf1 := HO.out.frozenAtN hl (j * 12 + 1)
      have yf2 := HO.out.frozenAtN hl (j * 12 + 2)
      have yf3 := HO.out.frozenAtN hl (j * 12 + 3)
      have yf4 := HO.out.frozenAtN hl (j * 12 + 4)
      have yf5 := HO.out.frozenAtN hl (j * 12 + 5)
      have yf6 := HO.out.frozenAtN hl (j * 12 + 6)
      have yf7 := HO.out.frozenAtN hl (j * 12 + 7)
      have yf8 := HO.out.frozenAtN hl (j * 12 + 8)
      have yf9 := HO.out.frozenAtN hl (j * 12 + 9)
      have yf10 := HO.out.frozenAtN hl (j * 12 + 10)
      have yf11 := HO.out.frozenAtN hl (j * 12 + 11)
      rw [HST.out] at HSW
      clear HST
      generalize nk s i = x at *
      generalize nk s j = y at *
      generalize hsl : swapL m a b (q + 1) = s1 at *
      have HSL := Lib.hid hsl
      clear hsl
      go_upto_region 3 with fail
      go_region
      go_wp2
      go_roundw
      case rel => exact ⟨q + 1, by omega, by go_num, Lib.hid (by rw [HSL.out]; exact HSW.out.1), Lib.hid HSW.out.2⟩
      case measure => simp [intOf]; omega
    · obtain rfl : q = k := by omega
      go_wp2
      go_end0
      exact ⟨rfl, HO.out, HB.out⟩
set_option maxRecDepth 100000 in
set_option maxHeartbeats 4000000 in
theorem Rotate_any (W0 : World) (g cap n : Nat) (m : List Nod) (a c b : Nat) (f : Value) (w : World) (h : OwnNods 60 w W0.heap.size (.slice (some ⟨g, 0, none⟩) n cap) m) (hm : m.length = n) (hn : n ≤ cap) (hc : cap ≤ maxLen) (h1 : a < c) (h2 : c < b) (h3 : b ≤ n) (hB : Below W0.heap.size W0 w) :
    Calls Tryd.prog 118 #[(.slice (some ⟨g, 0, none⟩) n cap), .int .i64 a, .int .i64 c, .int .i64 b, f] w fun e w' => e = .returned (.tuple #[]) ∧ OwnNods 60 w' W0.heap.size (.slice (some ⟨g, 0, none⟩) n cap) (turnL m a c b) ∧ Below W0.heap.size W0 w' := by
  have HSWP := Lib.hid (fun (s : List Nod) (a b k : Nat) (w : World) h hm h1 h2 hB => SwapRange_any W0 g cap n s a b k f w h hm hn hc h1 h2 hB)
  unfold maxLen at hc
  have H := Lib.hid h
  have HB0 := Lib.hid hB
  have HM := Lib.hid hm
  clear h hB hm
  go_enter Tryd.func118, Tryd.ntmps118
  go_wp2_with fail
  go_loopw [10, 11] (fun vi vj wr => ∃ (i j : Nat) (s : List Nod), vi = .int .i64 (i : Int) ∧ vj = .int .i64 (j : Int) ∧ 0 < i ∧ 0 < j ∧ i ≤ c - a ∧ j ≤ b - c ∧ s.length = n ∧ Hid (turnL s (c - i) c (c + j) = turnL m a c b) ∧ Hid (OwnNods 60 wr W0.heap.size (.slice (some ⟨g, 0, none⟩) n cap) s) ∧ Hid (Below W0.heap.size W0 wr)) (fun vi vj _ => (intOf vi).toNat + (intOf vj).toNat)
  case atStart => exact ⟨c - a, b - c, m, by go_num, by go_num, by omega, by omega, by omega, by omega, HM.out, Lib.hid (by rw [show c - (c - a) = a by omega, show c + (b - c) = b by omega]), H, HB0⟩
  case round =>
    obtain ⟨i, j, s, rfl, rfl, hi0, hj0, hi, hj, hs, HT, HO, HB⟩ := hrel
    obtain ⟨ci, hci⟩ : ∃ ci, c - i = ci := ⟨_, rfl⟩
    have hcc : (c : Int) - (i : Int) = (ci : Int) := by omega
    have hne : ((i : Int) != (j : Int)) = decide (i ≠ j) := by
      by_cases e : i = j
      · rw [e]; simp
      · rw [decide_eq_true e, bne_iff_ne]; omega
    by_cases he : i = j
    · subst he
      have hne : ((i : Int) != (i : Int)) = false := by simp
      have HSW := Lib.hid (fun (w : World) h hB => HSWP.out s ci c i w h hs (by omega) (by omega) hB)
      have HQ := Lib.hid (turn_swap_same (l := s) (m := c) (i := i) (by omega) (by omega))
      rw [hci] at HQ HT
      go_wp2_with fail
      refine (HSW.out _ HO.out HB.out).mono ?_
      rintro e w2 ⟨rfl, ho, hb⟩
      have HO2 := Lib.hid ho
      have HB2 := Lib.hid hb
      clear ho hb
      go_wp2
      go_end0
      exact ⟨rfl, by rw [← HT.out, ← HQ.out]; exact HO2.out, HB2.out⟩
    · have hnt : ((i : Int) != (j : Int)) = true := by rw [bne_iff_ne]; omega
      clear hne
      by_cases hg : j < i
      · have HSW := Lib.hid (fun (w : World) h hB => HSWP.out s ci c j w h hs (by omega) (by omega) hB)
        have HQ := Lib.hid (turn_swap_left (l := s) (m := c) (i := i) (j := j) hg (by omega) (by omega) hj0)
        rw [hci] at HQ HT
        go_wp2_with fail
        refine (HSW.out _ HO.out HB.out).mono ?_
        rintro e w2 ⟨rfl, ho, hb⟩
        have HO2 := Lib.hid ho
        have HB2 := Lib.hid hb
        clear ho hb
        go_wp2
        go_roundw
        case rel => exact ⟨i - j, j, _, by go_num, rfl, by omega, by omega, by omega, by omega, by rw [swapL_len]; exact hs, Lib.hid (HQ.out.trans HT.out), HO2, HB2⟩
        case measure => simp [intOf]; omega
      · obtain ⟨cj, hcj⟩ : ∃ cj, c + j - i = cj := ⟨_, rfl⟩
        have hcjj : (c : Int) + (j : Int) - (i : Int) = (cj : Int) := by omega
        have HSW := Lib.hid (fun (w : World) h hB => HSWP.out s ci cj i w h hs (by omega) (by omega) hB)
        have HQ := Lib.hid (turn_swap_right (l := s) (m := c) (i := i) (j := j) (by omega) (by omega) (by omega) hi0)
        rw [hci, hcj] at HQ
        rw [hci] at HT
        have hci2 := hci
        go_wp2_with fail
        refine (HSW.out _ HO.out HB.out).mono ?_
        rintro e w2 ⟨rfl, ho, hb⟩
        have HO2 := Lib.hid ho
        have HB2 := Lib.hid hb
        clear ho hb
        go_wp2
        go_roundw
        case rel => exact ⟨i, j - i, _, rfl, by go_num, by omega, by omega, by omega, by omega, by rw [swapL_len]; exact hs, Lib.hid (by rw [hci2]; exact HQ.out.trans HT.out), HO2, HB2⟩
        case measure => simp [intOf]; omega
end Go.Proofs.YtaffgndickdbiaaDoor
namespace Go.Creel
open Go.RowKit
def PathsOk (l : List Nod) : Prop := ∀ x ∈ l, x.path.size ≤ 1048576
theorem PathsOk.at {l : List Nod} (h : PathsOk l) {k : Nat} (hk : k < l.length) : (nk l k).path.size ≤ 1048576 := h _ (by rw [nk_eq hk]; exact List.getElem_mem hk)
theorem PathsOk.placed {l : List Nod} {p : Nat → Nat} (h : PathsOk l) (hp : ∀ k, k < l.length → p k < l.length) : PathsOk (placed l p) := by
  intro x hx
  obtain ⟨k, hk, rfl⟩ := mem_nk hx
  rw [placed_len] at hk
  rw [placed_at hk]
  exact h.at (hp k hk)
theorem PathsOk.turn {l : List Nod} {a m b : Nat} (h : PathsOk l) (h1 : a ≤ m) (h2 : m ≤ b) (h3 : b ≤ l.length) : PathsOk (turnL l a m b) := h.placed fun k hk => by
  unfold turnIx
  repeat' split
  all_goals omega
theorem PathsOk.parts {p x q : List Nod} : PathsOk (p ++ (x ++ q)) ↔ PathsOk p ∧ PathsOk x ∧ PathsOk q := by
  unfold PathsOk
  simp only [List.mem_append]
  constructor
  · intro h; exact ⟨fun y hy => h y (.inl hy), fun y hy => h y (.inr (.inl hy)), fun y hy => h y (.inr (.inr hy))⟩
  · rintro ⟨h1, h2, h3⟩ y (hy | hy | hy)
    · exact h1 y hy
    · exact h2 y hy
    · exact h3 y hy
theorem PathsOk.isort {l : List Nod} (h : PathsOk l) : PathsOk (isort l) := fun x hx => h x (isort_mem.1 hx)
theorem turn_at {l : List Nod} {j i : Nat} (h1 : j ≤ i) (h2 : i < l.length) : nk (turnL l j i (i + 1)) j = nk l i := by
  unfold turnL
  rw [placed_at (by omega)]
  congr 1
  unfold turnIx
  rw [if_pos (by omega), if_pos (by omega)]
  omega
theorem turn_ahead {l : List Nod} {j i : Nat} (h0 : 0 < j) (h1 : j ≤ i) (h2 : i < l.length) : nk (turnL l j i (i + 1)) (j - 1) = nk l (j - 1) := by
  unfold turnL
  rw [placed_at (by omega)]
  congr 1
  unfold turnIx
  rw [if_neg (by omega)]
def insS (p x q : List Nod) (k : Nat) : List Nod := p ++ (isort (x.take k) ++ (x.drop k ++ q))
theorem insS_len {p x q : List Nod} {k : Nat} : (insS p x q k).length = (p ++ (x ++ q)).length := by
  unfold insS
  simp only [List.length_append, isort_len, List.length_take, List.length_drop]
  omega
theorem insS_one (p x q : List Nod) : insS p x q 1 = p ++ (x ++ q) := by
  unfold insS
  cases x with
  | nil => rfl
  | cons a r => rfl
theorem insS_all (p x q : List Nod) {k : Nat} (h : x.length ≤ k) : insS p x q k = p ++ (isort x ++ q) := by
  unfold insS
  rw [List.take_of_length_le h, List.drop_eq_nil_of_le h]
  rfl
theorem insS_at {p x q : List Nod} {k : Nat} (hk : k < x.length) : nk (insS p x q k) (p.length + k) = nk x k := by
  unfold insS
  have hl : (isort (x.take k)).length = k := by rw [isort_len, List.length_take]; omega
  rw [nk_app, if_neg (by omega), nk_app, if_neg (by omega), nk_app, if_pos (by rw [List.length_drop]; omega), nk_drop]
  congr 1
  omega
theorem insS_old {p x q : List Nod} {k j : Nat} (hk : k ≤ x.length) (hj : j < k) : nk (insS p x q k) (p.length + j) = nk (isort (x.take k)) j := by
  unfold insS
  have hl : (isort (x.take k)).length = k := by rw [isort_len, List.length_take]; omega
  rw [nk_app, if_neg (by omega), nk_app, if_pos (by omega)]
  congr 1
  omega
theorem insS_paths {p x q : List Nod} {k : Nat} (h : PathsOk (p ++ (x ++ q))) : PathsOk (insS p x q k) := by
  rw [PathsOk.parts] at h
  unfold insS
  rw [PathsOk.parts]
  refine ⟨h.1, PathsOk.isort fun y hy => h.2.1 y (List.mem_of_mem_take hy), fun y hy => ?_⟩
  rcases List.mem_append.1 hy with hy | hy
  · exact h.2.1 y (List.mem_of_mem_drop hy)
  · exact h.2.2 y hy
end Go.Creel
namespace Go.Proofs.YtaffgndickdbiaaDoor
open Go.Creel Go.RowKit
set_option maxRecDepth 100000 in
theorem SortCmp_any (x y : Nod) (w : World) (hM : MaxOk w) (hx : x.path.size ≤ 1048576) (hy : y.path.size ≤ 1048576) :
    Calls Tryd.prog 46 #[x.val, y.val] w fun e w' => e = .returned (.int .i64 (ordN x y)) ∧ Below w.heap.size w w' := by
  have HB := Lib.hid (((Below.refl w.heap.size w).alloc (Nat.le_refl _) (boxOf x)).alloc (by simp) (boxOf y))
  have HC := Lib.hid (fun w hM => Compare_any x.path y.path w hM hx hy)
  have HM := Lib.hid (hM.below HB.out)
  rw [show ordP (pathParts x.path) (pathParts y.path) = ordN x y from rfl] at HC
  clear hM hx hy
  go_enter Tryd.func46, Tryd.ntmps46
  go_wp2_with fail
  refine (HC.out _ HM.out).mono ?_
  rintro e w2 ⟨rfl, hb⟩
  have HB2 := Lib.hid (HB.out.trans (hb.mono HB.out.size))
  clear hb
  go_wp2
  go_ret
  exact ⟨rfl, HB2.out⟩
set_option maxRecDepth 100000 in
set_option maxHeartbeats 4000000 in
theorem Insert_any (W0 : World) (g cap n : Nat) (p x q : List Nod) (w : World) (h : OwnNods 60 w W0.heap.size (.slice (some ⟨g, 0, none⟩) n cap) (p ++ (x ++ q))) (hm : (p ++ (x ++ q)).length = n) (hn : n ≤ cap) (hc : cap ≤ maxLen) (hfew : n ≤ 8000000000) (hp : PathsOk (p ++ (x ++ q))) (hM : MaxOk W0) (hB : Below W0.heap.size W0 w) (a b : Nat) (ha : a = p.length) (hb : b = p.length + x.length) :
    Calls Tryd.prog 108 #[(.slice (some ⟨g, 0, none⟩) n cap), .int .i64 a, .int .i64 b, (.func (.func 46) #[] #[])] w fun e w' => e = .returned (.tuple #[]) ∧ OwnNods 60 w' W0.heap.size (.slice (some ⟨g, 0, none⟩) n cap) (p ++ (isort x ++ q)) ∧ Below W0.heap.size W0 w' := by
  unfold maxLen at hc
  have hnn : p.length + x.length ≤ n := by rw [← hm]; simp only [List.length_append]; omega
  have H := Lib.hid h
  have HB0 := Lib.hid hB
  have HL := Lib.hid (fun k => (insS_len (p := p) (x := x) (q := q) (k := k)).trans hm)
  have HP := Lib.hid (fun k => insS_paths (k := k) hp)
  have HM := Lib.hid hM
  have HALL := Lib.hid (fun k hk => insS_all p x q (k := k) hk)
  have HONE := Lib.hid (insS_one p x q)
  have HDONE := Lib.hid (fun k j hk hj h1 h2 => insert_done (p := p) (x := x) (q := q) (k := k) (j := j) hk hj h1 h2)
  have hent := enter_of Tryd.func46 (by kernel_rfl) (by kernel_rfl)
  obtain ⟨a0, ha0⟩ : ∃ a0, p.length = a0 := ⟨_, rfl⟩
  rw [ha0] at ha hb hnn HDONE
  subst ha
  have hbx := hb
  have HAT := Lib.hid (fun k (hk : k < x.length) => (show nk (insS p x q k) (a + k) = nk x k by rw [← ha0]; exact insS_at hk))
  have HOL := Lib.hid (fun k j (hk : k ≤ x.length) (hj : j < k) => (show nk (insS p x q k) (a + j) = nk (isort (x.take k)) j by rw [← ha0]; exact insS_old hk hj))
  clear h hB hm hp hM ha0 hb
  go_enter Tryd.func108, Tryd.ntmps108
  go_wp2_with fail
  go_loopw [8, 9] (fun v8 _ wr => ∃ k : Nat, 1 ≤ k ∧ (k ≤ x.length ∨ (k = 1 ∧ x.length = 0)) ∧ v8 = .int .i64 ((a + k : Nat) : Int) ∧ Hid (OwnNods 60 wr W0.heap.size (.slice (some ⟨g, 0, none⟩) n cap) (insS p x q k)) ∧ Hid (Below W0.heap.size W0 wr)) (fun v8 _ _ => b - (intOf v8).toNat)
  case atStart => exact ⟨1, by omega, by omega, by go_num, Lib.hid (by rw [HONE.out]; exact H.out), HB0⟩
  case round =>
    obtain ⟨k, hk1, hkx, rfl, HO, HB⟩ := hrel
    by_cases hlt : k < x.length
    · have hab : (((a + k : Nat) : Int)) < (b : Int) := by omega
      go_upto_region 4 with fail
      go_loopw [9] (fun v9 wx => ∃ d : Nat, d ≤ k ∧ v9 = .int .i64 ((a + d : Nat) : Int) ∧ Hid (OwnNods 60 wx W0.heap.size (.slice (some ⟨g, 0, none⟩) n cap) (turnL (insS p x q k) (a + d) (a + k) (a + k + 1))) ∧ Hid (Below W0.heap.size W0 wx) ∧ Hid (∀ i, d ≤ i → i < k → ordN (nk x k) (nk (isort (x.take k)) i) < 0)) (fun v9 _ => (intOf v9).toNat)
      case atStart => exact ⟨k, by omega, rfl, Lib.hid (by rw [turnL_none _ _ _ (by rw [HL.out]; omega)]; exact HO.out), HB, Lib.hid (fun i h1 h2 => absurd h2 (by omega))⟩
      case round =>
        obtain ⟨d, hd, rfl, HO1, HB1, HLT⟩ := hrel
        by_cases hd0 : d = 0
        · subst hd0
          have HD : Hid (turnL (insS p x q k) (a + 0) (a + k) (a + k + 1) = insS p x q (k + 1)) := Lib.hid (HDONE.out k 0 hlt (by omega) (fun i h1 h2 => HLT.out i h1 h2) (fun h => absurd h (by omega)))
          rw [HD.out] at HO1
          have hgd : ¬ ((a : Int) < ((a + 0 : Nat) : Int)) := by omega
          have hge : decide ((a : Int) < ((a + 0 : Nat) : Int)) = false := decide_eq_false hgd
          clear HLT HD
          go_wp2
          go_quiet (fail)
          go_wp2
          go_roundw
          case rel => exact ⟨k + 1, by omega, by omega, by go_num, Lib.hid (HO1.out.below (below_draws _ _ _)), Lib.hid (HB1.out.trans ((below_draws _ _ _).mono HB1.out.size))⟩
          case measure => simp [intOf]; omega
        · have hl : (turnL (insS p x q k) (a + d) (a + k) (a + k + 1)).length = n := by rw [turnL_len]; exact HL.out k
          have HXE := Lib.hid ((turn_at (l := insS p x q k) (j := a + d) (i := a + k) (by omega) (by rw [HL.out]; omega)).trans (HAT.out k hlt))
          have HYE := Lib.hid (show nk (turnL (insS p x q k) (a + d) (a + k) (a + k + 1)) (a + d - 1) = nk (isort (x.take k)) (d - 1) from (turn_ahead (by omega) (by omega) (by rw [HL.out]; omega)).trans (by rw [show a + d - 1 = a + (d - 1) by omega]; exact HOL.out k (d - 1) (by omega) (by omega)))
          have HTD := Lib.hid (turn_down (l := insS p x q k) (m := a + k) (k := a + d) (by omega) (by omega) (by rw [HL.out]; omega))
          have HPT := Lib.hid ((HP.out k).turn (a := a + d) (m := a + k) (b := a + k + 1) (by omega) (by omega) (by rw [HL.out]; omega))
          have HDN := Lib.hid (fun h2 => (show turnL (insS p x q k) (a + d) (a + k) (a + k + 1) = insS p x q (k + 1) from HDONE.out k d hlt hd (fun i h1 h2 => HLT.out i h1 h2) h2))
          have HLS := Lib.hid (fun (h : ordN (nk x k) (nk (isort (x.take k)) (d - 1)) < 0) i (h1 : d - 1 ≤ i) (h2 : i < k) => (show ordN (nk x k) (nk (isort (x.take k)) i) < 0 from by
            by_cases e : i = d - 1
            · rw [e]; exact h
            · exact HLT.out i (by omega) h2))
          generalize hs : turnL (insS p x q k) (a + d) (a + k) (a + k + 1) = s at *
          generalize hs1 : turnL (insS p x q k) (a + d - 1) (a + k) (a + k + 1) = s1 at *
          have HS1 := Lib.hid hs1
          clear hs hs1 HLT
          obtain ⟨j, hj⟩ : ∃ j, a + d = j := ⟨_, rfl⟩
          rw [hj] at HXE HTD
          rw [hj] at HYE
          obtain ⟨j1, hj1⟩ : ∃ j1, j - 1 = j1 := ⟨_, rfl⟩
          rw [hj1] at HYE HTD
          have hjj : (j : Int) - 1 = (j1 : Int) := by omega
          have hgd : (a : Int) < (j : Int) := by omega
          have hge : decide ((a : Int) < (j : Int)) = true := decide_eq_true hgd
          have hjn : j < n := by omega
          have hj1n : j1 < n := by omega
          have hwj : IntKind.i64.wrap (j1 : Int) = (j1 : Int) := by rw [IntKind.wrap_i64]; omega
          have hjl : (j1 : Int) < (n : Int) := by omega
          have HCMP := Lib.hid (fun w hM => SortCmp_any (nk s j) (nk s j1) w hM (HPT.out.at (by omega)) (HPT.out.at (by omega)))
          have HSWF := Lib.hid (fun W (h : OwnNods 60 W W0.heap.size (.slice (some ⟨g, 0, none⟩) n cap) s) (hB : Below W0.heap.size W0 W) => h.swap (i := j) (j := j1) hl hjn hj1n hB)
          rw [HTD.out] at HSWF
          rw [HXE.out, HYE.out] at HCMP
          have HNX := Lib.hid (HO1.out.nodAtN hl hjn)
          have HNY := Lib.hid (HO1.out.nodAtN hl hj1n)
          rw [HXE.out] at HNX HSWF
          rw [HYE.out] at HNY HSWF
          have HJ := Lib.hid hj
          rw [hj]
          clear hj hj1 HTD HPT HXE HYE
          generalize nk x k = X at *
          generalize nk (isort (x.take k)) (d - 1) = Y at *
          obtain ⟨x0, x1, x2, x3, x4, x5, x6, x7, x8, x9, x10, x11⟩ := HNX.out
          obtain ⟨y0, y1, y2, y3, y4, y5, y6, y7, y8, y9, y10, y11⟩ := HNY.out
          generalize ordN X Y = c at *
          go_wp2
          go_still_tail 14, (by kernel_rfl)
          go_wp2_with fail
          refine (HCMP.out _ ((HM.out.below HB1.out).below (Below.refl _ _).drew)).mono ?_
          rintro e wc ⟨rfl, hb⟩
          have HBC := Lib.hid ((Below.refl wr.heap.size wr).drew.trans hb)
          clear hb x0 x1 x2 x3 x4 x5 x6 x7 x8 x9 x10 x11 y0 y1 y2 y3 y4 y5 y6 y7 y8 y9 y10 y11
          have HO2 := Lib.hid (HO1.out.below HBC.out)
          have HB2 := Lib.hid (HB1.out.trans (HBC.out.mono HB1.out.size))
          have HNX2 := Lib.hid (HNX.out.below HBC.out)
          have HNY2 := Lib.hid (HNY.out.below HBC.out)
          by_cases hc0 : c < 0
          · have HSW := Lib.hid (HSWF.out wc HO2.out HB2.out)
            have HLD := Lib.hid (HLS.out hc0)
            obtain ⟨x0, x1, x2, x3, x4, x5, x6, x7, x8, x9, x10, x11⟩ := HNX2.out
            obtain ⟨y0, y1, y2, y3, y4, y5, y6, y7, y8, y9, y10, y11⟩ := HNY2.out
            have xf0 := HO2.out.frozenAtN hl (j * 12)
            have xf1 := HO2.out.frozenAtN hl (j * 12 + 1)
            have xf2 := HO2.out.frozenAtN hl (j * 12 + 2)
            have xf3 := HO2.out.frozenAtN hl (j * 12 + 3)
            have xf4 := HO2.out.frozenAtN hl (j * 12 + 4)
            have xf5 := HO2.out.frozenAtN hl (j * 12 + 5)
            have xf6 := HO2.out.frozenAtN hl (j * 12 + 6)
            have xf7 := HO2.out.frozenAtN hl (j * 12 + 7)
            have xf8 := HO2.out.frozenAtN hl (j * 12 + 8)
            have xf9 := HO2.out.frozenAtN hl (j * 12 + 9)
            have xf10 := HO2.out.frozenAtN hl (j * 12 + 10)
            have xf11 := HO2.out.frozenAtN hl (j * 12 + 11)
            have yf0 := HO2.out.frozenAtN hl (j1 * 12)
            have yf1 := HO2.out.frozenAtN hl (j1 * 12 + 1)
            have yf2 := HO2.out.frozenAtN hl (j1 * 12 + 2)
            have yf3 := HO2.out.frozenAtN hl (j1 * 12 + 3)
            have yf4 := HO2.out.frozenAtN hl (j1 * 12 + 4)
            have yf5 := HO2.out.frozenAtN hl (j1 * 12 + 5)
            have yf6 := HO2.out.frozenAtN hl (j1 * 12 + 6)
            have yf7 := HO2.out.frozenAtN hl (j1 * 12 + 7)
            have yf8 := HO2.out.frozenAtN hl (j1 * 12 + 8)
            have yf9 := HO2.out.frozenAtN hl (j1 * 12 + 9)
            have yf10 := HO2.out.frozenAtN hl (j1 * 12 + 10)
            have yf11 := HO2.out.frozenAtN hl (j1 * 12 + 11)
            clear HNX HNY HNX2 HNY2 HCMP HSWF HDN HLS HO1 HB1
            go_upto_region 6 with fail
            go_region
            generalize (setNode (setNode wc g (j * 12) Y) g (j1 * 12) X).drew = W9 at *
            go_wp2
            refine ⟨?_, ?measure⟩
            repeat apply Exists.intro
            refine ⟨?rel2, rfl⟩
            case rel2 =>
              have hj := HJ.out
              exact ⟨d - 1, by omega, by go_num, Lib.hid (by rw [show a + (d - 1) = a + d - 1 by omega, HS1.out]; exact HSW.out.1), Lib.hid HSW.out.2, HLD⟩
            case measure => simp [intOf]; omega
          · have HD := Lib.hid (HDN.out (fun _ => by omega))
            rw [HD.out] at HO2
            clear HNX HNY HNX2 HNY2 HCMP HSWF HDN HLS HO1 HB1
            go_wp2
            go_roundw
            case rel => exact ⟨k + 1, by omega, by omega, by go_num, HO2, HB2⟩
            case measure => simp [intOf]; omega
    · have hab : ¬ (((a + k : Nat) : Int)) < (b : Int) := by omega
      go_wp2
      go_end0
      exact ⟨rfl, by rw [← HALL.out k (by omega)]; exact HO.out, HB.out⟩
end Go.Proofs.YtaffgndickdbiaaDoor
namespace Go.Creel
open Go.RowKit
theorem nk_left {p l r : List Nod} {c : Nat} (h1 : p.length ≤ c) (h2 : c < p.length + l.length) : nk (p ++ (l ++ r)) c = nk l (c - p.length) := by
  rw [nk_app, if_neg (by omega), nk_app, if_pos (by omega)]
theorem nk_right {p l r q : List Nod} {c : Nat} (h1 : p.length + l.length ≤ c) (h2 : c < p.length + l.length + r.length) : nk (p ++ (l ++ (r ++ q))) c = nk r (c - (p.length + l.length)) := by
  rw [nk_app, if_neg (by omega), nk_app, if_neg (by omega), nk_app, if_pos (by omega)]
  congr 1
  omega
theorem symA_done {p r q : List Nod} {y : Nod} {s : Nat} (hr : r.Pairwise PathLe) (hs : s ≤ r.length) (h1 : ∀ k, k < s → ordN (nk r k) y < 0) (h2 : ∀ k, s ≤ k → k < r.length → ¬ ordN (nk r k) y < 0) :
    turnL (p ++ ([y] ++ (r ++ q))) p.length (p.length + 1) (p.length + s + 1) = p ++ (isort ([y] ++ r) ++ q) := by
  have e := turnL_parts (p := p) (u := [y]) (v := r.take s) (q := r.drop s ++ q)
  have l1 : (r.take s).length = s := by rw [List.length_take]; omega
  rw [l1, ← List.append_assoc (r.take s), List.take_append_drop, show ([y] : List Nod).length = 1 from rfl, show p.length + 1 + s = p.length + s + 1 by omega] at e
  rw [e]
  have hr' : (r.take s ++ r.drop s).Pairwise PathLe := by rw [List.take_append_drop]; exact hr
  have f := isort_first (x := y) hr' (fun z hz => by
    obtain ⟨k, hk, rfl⟩ := mem_nk hz
    rw [l1] at hk
    rw [nk_take hk]
    exact h1 k hk) (fun z hz => by
    obtain ⟨k, hk, rfl⟩ := mem_nk hz
    rw [List.length_drop] at hk
    rw [nk_drop]
    have := h2 (s + k) (by omega) (by omega)
    rw [ordN_lt0] at this
    exact Classical.byContradiction this)
  rw [List.take_append_drop] at f
  rw [show [y] ++ r = y :: r from rfl, ← f]
  simp
theorem symB_done {p l q : List Nod} {y : Nod} {s : Nat} (hl : l.Pairwise PathLe) (hs : s ≤ l.length) (h1 : ∀ k, k < s → ¬ ordN y (nk l k) < 0) (h2 : ∀ k, s ≤ k → k < l.length → ordN y (nk l k) < 0) :
    turnL (p ++ (l ++ ([y] ++ q))) (p.length + s) (p.length + l.length) (p.length + l.length + 1) = p ++ (isort (l ++ [y]) ++ q) := by
  have e := turnL_parts (p := p ++ l.take s) (u := l.drop s) (v := [y]) (q := q)
  have l1 : (p ++ l.take s).length = p.length + s := by rw [List.length_append, List.length_take]; omega
  have l2 : (l.drop s).length = l.length - s := List.length_drop ..
  rw [l1, l2, show p.length + s + (l.length - s) = p.length + l.length by omega, show ([y] : List Nod).length = 1 from rfl] at e
  have e1 : p ++ l.take s ++ (l.drop s ++ ([y] ++ q)) = p ++ (l ++ ([y] ++ q)) := by
    rw [List.append_assoc, ← List.append_assoc (l.take s), List.take_append_drop]
  rw [e1] at e
  rw [e]
  have hl' : (l.take s ++ l.drop s).Pairwise PathLe := by rw [List.take_append_drop]; exact hl
  have f := isort_last (y := y) hl' (fun z hz => by
    obtain ⟨k, hk, rfl⟩ := mem_nk hz
    rw [List.length_take] at hk
    rw [nk_take (by omega)]
    have := h1 k (by omega)
    rw [ordN_lt0] at this
    exact Classical.byContradiction this) (fun z hz => by
    obtain ⟨k, hk, rfl⟩ := mem_nk hz
    rw [List.length_drop] at hk
    rw [nk_drop]
    exact h2 (s + k) (by omega) (by omega))
  rw [List.take_append_drop] at f
  rw [← f]
  simp
structure Cut2 (f : Nat → Prop) (lo hi i j : Nat) : Prop where
  lo_le : lo ≤ i
  le : i ≤ j
  le_hi : j ≤ hi
  yes : ∀ k, lo ≤ k → k < i → f k
  no : ∀ k, j ≤ k → k < hi → ¬ f k
theorem Cut2.start {f : Nat → Prop} {lo hi : Nat} (h : lo ≤ hi) : Cut2 f lo hi lo hi := ⟨Nat.le_refl _, h, Nat.le_refl _, fun k h1 h2 => absurd h2 (by omega), fun k h1 h2 => absurd h2 (by omega)⟩
theorem Cut2.up {f : Nat → Prop} {lo hi i j h : Nat} (c : Cut2 f lo hi i j) (h1 : i ≤ h) (h2 : h < j) (hm : ∀ k, lo ≤ k → k ≤ h → f h → f k) (hf : f h) : Cut2 f lo hi (h + 1) j :=
  ⟨by have := c.lo_le; omega, by omega, c.le_hi, fun k a b => hm k a (by omega) hf, c.no⟩
theorem Cut2.down {f : Nat → Prop} {lo hi i j h : Nat} (c : Cut2 f lo hi i j) (h1 : i ≤ h) (h2 : h < j) (hm : ∀ k, h ≤ k → k < hi → f k → f h) (hf : ¬ f h) : Cut2 f lo hi i h :=
  ⟨c.lo_le, h1, by have := c.le_hi; omega, c.yes, fun k a b e => hf (hm k a b e)⟩
structure SymB (a m b mid lo hi : Nat) : Prop where
  a_lo : a ≤ lo
  lo_hi : lo ≤ hi
  hi_m : hi ≤ m
  hi_mid : hi ≤ mid
  end_lo : mid + m ≤ lo + b
  lo_is : lo + b = mid + m ∨ lo = a
  hi_is : hi = mid ∨ hi = m
theorem symB_gt {a m b mid : Nat} (h1 : a < m) (h2 : m < b) (hm : mid = (a + b) / 2) (h : mid < m) : SymB a m b mid (mid + m - b) mid := by
  refine ⟨?_, ?_, ?_, ?_, ?_, ?_, ?_⟩ <;> omega
theorem symB_le {a m b mid : Nat} (h1 : a < m) (h2 : m < b) (hm : mid = (a + b) / 2) (h : m ≤ mid) : SymB a m b mid a m := by
  refine ⟨?_, ?_, ?_, ?_, ?_, ?_, ?_⟩ <;> omega
def SymF (d : List Nod) (e c : Nat) : Prop := ¬ ordN (nk d (e - 1 - c)) (nk d c) < 0
theorem symF_mono {p l r q : List Nod} {a m b mid lo hi : Nat} (ha : a = p.length) (hm : m = p.length + l.length) (hb : b = p.length + l.length + r.length) (hl : l.Pairwise PathLe) (hr : r.Pairwise PathLe) (B : SymB a m b mid lo hi)
    {k h : Nat} (h1 : lo ≤ k) (h2 : k ≤ h) (h3 : h < hi) (hf : SymF (p ++ (l ++ (r ++ q))) (mid + m) h) : SymF (p ++ (l ++ (r ++ q))) (mid + m) k := by
  obtain ⟨b1, b2, b3, b4, b5, _, _⟩ := B
  unfold SymF at hf ⊢
  rw [ordN_lt0] at hf ⊢
  rw [nk_left (by omega) (by omega), nk_right (by omega) (by omega)] at hf ⊢
  have g : PathLe (nk l (h - p.length)) (nk r (mid + m - 1 - h - (p.length + l.length))) := Classical.byContradiction hf
  refine fun e => e (ordN_le_trans (nk_sorted hl (by omega) (by omega)) (ordN_le_trans g (nk_sorted hr (by omega) (by omega))))
theorem symC_cut {p l r q : List Nod} {a m b mid lo hi s : Nat} (ha : a = p.length) (hm : m = p.length + l.length) (hb : b = p.length + l.length + r.length) (hl : l.Pairwise PathLe) (hr : r.Pairwise PathLe) (B : SymB a m b mid lo hi)
    (C : Cut2 (SymF (p ++ (l ++ (r ++ q))) (mid + m)) lo hi s s) :
    isort (l.take (s - a) ++ r.take (mid - s)) ++ isort (l.drop (s - a) ++ r.drop (mid - s)) = isort (l ++ r) := by
  obtain ⟨b1, b2, b3, b4, b5, b6, b7⟩ := B
  obtain ⟨c1, _, c2, c3, c4⟩ := C
  refine merge_cut hl hr (by omega) (by omega) (fun h1 h2 => ?_) (fun h1 h2 => ?_)
  · have hs : lo < s := by rcases b6 with e | e <;> omega
    have f := c3 (s - 1) (by omega) (by omega)
    unfold SymF at f
    rw [nk_left (c := s - 1) (by omega) (by omega), nk_right (by omega) (by omega)] at f
    rw [show mid - s = mid + m - 1 - (s - 1) - (p.length + l.length) by omega, show s - a - 1 = s - 1 - p.length by omega]
    exact f
  · have hs : s < hi := by rcases b7 with e | e <;> omega
    have f := c4 s (Nat.le_refl _) hs
    unfold SymF at f
    rw [nk_left (c := s) (by omega) (by omega), nk_right (by omega) (by omega)] at f
    rw [show mid - s - 1 = mid + m - 1 - s - (p.length + l.length) by omega, show s - a = s - p.length by omega]
    exact Classical.byContradiction f
theorem symC_turn {p l r q : List Nod} {a m mid s : Nat} (ha : a = p.length) (hm : m = p.length + l.length) (h1 : a ≤ s) (h2 : s ≤ m) (h3 : s ≤ mid) (h4 : mid - s ≤ r.length) :
    turnL (p ++ (l ++ (r ++ q))) s m (mid + m - s) = p ++ (l.take (s - a) ++ (r.take (mid - s) ++ (l.drop (s - a) ++ (r.drop (mid - s) ++ q)))) := by
  have e := turnL_parts (p := p ++ l.take (s - a)) (u := l.drop (s - a)) (v := r.take (mid - s)) (q := r.drop (mid - s) ++ q)
  have l1 : (p ++ l.take (s - a)).length = s := by rw [List.length_append, List.length_take]; omega
  have l2 : (l.drop (s - a)).length = m - s := by rw [List.length_drop]; omega
  have l3 : (r.take (mid - s)).length = mid - s := by rw [List.length_take]; omega
  rw [l1, l2, l3, show s + (m - s) = m by omega, show m + (mid - s) = mid + m - s by omega] at e
  have e1 : p ++ l.take (s - a) ++ (l.drop (s - a) ++ (r.take (mid - s) ++ (r.drop (mid - s) ++ q))) = p ++ (l ++ (r ++ q)) := by
    rw [List.append_assoc, ← List.append_assoc (l.take (s - a)), List.take_append_drop, ← List.append_assoc (r.take (mid - s)), List.take_append_drop]
  rw [e1] at e
  rw [e, List.append_assoc]
end Go.Creel
