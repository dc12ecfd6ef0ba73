/-
  The law PaxReads, walked (Upto).
-/
import Derived.Test.YtafokokmkbgcjaaDoorPaxRd
namespace Go.Creel
theorem OwnRecs.form2 {t : TypeId} {w : World} {B : Nat} {v : Value} {l : List Rec} (h : OwnRecs t w B v l) : ∃ a cap, v = .slice a l.length cap ∧ cap ≤ maxLen ∧ (0 < l.length → ∃ g, a = some ⟨g, 0, none⟩ ∧ l.length ≤ cap ∧ g < w.heap.size) := by
  rcases h.form with ⟨rfl, rfl⟩ | ⟨g, cap, rfl, _, h1, h2, h3⟩
  · exact ⟨none, 0, rfl, by simp, fun h => absurd h (by simp)⟩
  · exact ⟨_, cap, rfl, h3, fun _ => ⟨g, rfl, h2, h1⟩⟩
end Go.Creel
namespace Go.Proofs.YtafokokmkbgcjaaDoor
set_option linter.unusedVariables false
set_option linter.unusedSimpArgs false
open Go.Creel Go.RowKit
set_option maxRecDepth 100000 in
set_option maxHeartbeats 2000000 in
theorem EqRecs_any (v1 v2 : Value) (l : List Rec) (B1 B2 : Nat) (w : World) (h1 : OwnRecs 46 w B1 v1 l) (h2 : OwnRecs 46 w B2 v2 l) :
    Calls Tryd.prog 38 #[v1, v2] w fun e w' => e = .returned (.bool true) ∧ Below w.heap.size w w' := by
  obtain ⟨a1, p1, rfl, q1, f1⟩ := h1.form2
  obtain ⟨a2, p2, rfl, q2, f2⟩ := h2.form2
  unfold maxLen at q1 q2
  by_cases hl : 0 < l.length
  · obtain ⟨g1, rfl, m1, _⟩ := f1 hl
    obtain ⟨g2, rfl, m2, _⟩ := f2 hl
    have H1 := Lib.hid (fun k (hk : k < l.length) => h1.recAt hk)
    have H2 := Lib.hid (fun k (hk : k < l.length) => h2.recAt hk)
    clear f1 f2 h1 h2
    go_enter Tryd.func38, Tryd.ntmps38
    go_wp2
    go_loopw [5, 13] (fun _ i wr => ∃ (k n : Nat), k ≤ l.length ∧ i = .int .i64 k ∧ wr = w.drewN n) (fun _ i _ => l.length - (intOf i).toNat)
    case atStart => exact ⟨0, 0, by omega, rfl, rfl⟩
    case round =>
      obtain ⟨k, n, hk, rfl, rfl⟩ := hrel
      by_cases hlt : k < l.length
      · obtain ⟨c0, c1⟩ := H1.out k hlt
        obtain ⟨d0, d1⟩ := H2.out k hlt
        generalize rk l k = x at *
        go_wp2
        go_quiet (fail)
        go_wp2
        go_roundw
        case rel => exact ⟨k + 1, _, by omega, by simp, rfl⟩
        case measure => simp only [intOf]; omega
      · have hk' : k = l.length := by omega
        subst hk'
        go_wp2
        go_ret
        exact ⟨rfl, below_drewN (Below.refl _ _) n⟩
  · obtain rfl : l = [] := List.eq_nil_of_length_eq_zero (by omega)
    clear f1 f2 h1 h2
    go_enter Tryd.func38, Tryd.ntmps38
    go_wp2
    go_loop [5, 13] (fun _ i => i = .int .i64 0) (fun _ _ => 0)
    case atStart => rfl
    case round =>
      obtain rfl := hrel
      go_wp2
      go_ret
      exact ⟨rfl, Below.refl _ _⟩
set_option maxRecDepth 100000 in
theorem SameRecs_any (v1 v2 : Value) (l : List Rec) (B1 B2 : Nat) (w : World) (h1 : OwnRecs 46 w B1 v1 l) (h2 : OwnRecs 46 w B2 v2 l) :
    Calls Tryd.prog 16 #[v1, v2] w fun e w' => e = .returned (.bool true) ∧ Below w.heap.size w w' := by
  have HE := Lib.hid (EqRecs_any v1 v2 l B1 B2 w h1 h2)
  clear h1 h2
  go_enter Tryd.func16, Tryd.ntmps16
  go_wp2_with fail
  refine HE.out.mono ?_
  rintro e w2 ⟨rfl, hb⟩
  have HB := Lib.hid hb
  clear hb
  go_wp2
  go_ret
  exact ⟨rfl, HB.out⟩
theorem pow10_laid_pr (w : World) (h : laidMetH Tryd.prog Rows.paxReadsUptoRow.laid w) : Pow10 w := by
  obtain ⟨ps, hp, _⟩ := (show laidMet Tryd.prog Rows.paxReadsUptoRow.laid w from h)
  exact tabIs_laid (g := 3) (t := 149) (e := 127) (n := 20) (by kernel_rfl) (by kernel_rfl) (by kernel_rfl) (by kernel_rfl) (by kernel_rfl) (by kernel_rfl) _ ps 2 hp rfl
set_option maxRecDepth 100000 in
set_option maxHeartbeats 2000000 in
theorem paxReads_walk (w : World) (s : ByteArray) (hs : s.size ≤ 1048576) (_hsh : w.ShapedOpen Tryd.prog) (hL : laidMetH Tryd.prog Rows.paxReadsUptoRow.laid w) :
    Calls Tryd.prog 6 #[.string s] w fun e w' => e = .returned (.bool true) ∧ Below w.heap.size w w' := by
  have HT := Lib.hid (pow10_laid_pr w hL)
  have H1 := Lib.hid (fun w h => PaxRead_any s w hs h)
  have H2 := Lib.hid (fun w h => PaxOf_any s w hs h)
  clear _hsh hL
  generalize paxOf s = p at *
  obtain ⟨l, e0⟩ := p
  go_enter Tryd.func6, Tryd.ntmps6
  go_wp2_with fail
  refine (H1.out _ HT.out).mono ?_
  rintro e w1 ⟨v1, rfl, ho1, hb⟩
  have HB1 := Lib.hid hb
  have HO1 := Lib.hid ho1
  clear hb ho1
  go_wp2_with fail
  refine (H2.out _ (HT.out.below HB1.out)).mono ?_
  rintro e w2 ⟨v2, rfl, ho2, hb⟩
  have HB2 := Lib.hid (HB1.out.trans (hb.mono HB1.out.size))
  have HO1' := Lib.hid (HO1.out.below hb)
  have HO2 := Lib.hid ho2
  clear hb ho2
  go_wp2_with fail
  refine (SameRecs_any v1 v2 l _ _ _ HO1'.out HO2.out).mono ?_
  rintro e w3 ⟨rfl, hb⟩
  have HB3 := Lib.hid (HB2.out.trans (hb.mono HB2.out.size))
  clear hb
  have q1 : (e0 == e0) = true := by simp
  go_wp2
  go_ret
  exact ⟨rfl, HB3.out⟩
end Go.Proofs.YtafokokmkbgcjaaDoor
