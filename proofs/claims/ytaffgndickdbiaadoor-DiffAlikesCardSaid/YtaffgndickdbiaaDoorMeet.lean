/-
  (*link.table).meet.
-/
import Derived.Test.YtaffgndickdbiaaDoorBoxOf
import Derived.Test.YtaffgndickdbiaaDoorInts
namespace Go.Proofs.YtaffgndickdbiaaDoor
set_option linter.unusedVariables false
set_option linter.unusedSimpArgs false
open Go.Creel Go.RowKit
set_option maxRecDepth 100000 in
theorem Meet_zero (tb : Nat) (x : Nod) (n : Int) (w : World) (h0 : x.same = 0) :
    Calls Tryd.prog 107 #[.pointer (some ⟨tb, 0, none⟩), x.val, .int .i64 n] w fun e w' => e = .returned (.int .i64 n) ∧ Below w.heap.size w w' := by
  have HB := Lib.hid ((Below.refl w.heap.size w).alloc (Nat.le_refl _) (boxOf x))
  have hq : (x.same == 0) = true := by rw [h0]; rfl
  clear h0
  go_enter Tryd.func107, Tryd.ntmps107
  go_wp2
  go_ret
  exact ⟨rfl, HB.out⟩
set_option maxRecDepth 100000 in
theorem Meet_has (tb mb : Nat) (m : List (Int × Value)) (x : Nod) (n j : Int) (w : World) (h0 : x.same ≠ 0) (hc : w.cell? ⟨tb, 0, none⟩ = some (.map (some mb))) (hm : MapIs (fun n : Int => Value.int .i64 n) w mb m) (ha : assoc x.same m = some (.int .i64 j)) :
    Calls Tryd.prog 107 #[.pointer (some ⟨tb, 0, none⟩), x.val, .int .i64 n] w fun e w' => e = .returned (.int .i64 j) ∧ Below w.heap.size w w' := by
  have hb := (Below.refl w.heap.size w).alloc (Nat.le_refl _) (boxOf x)
  have HB := Lib.hid hb
  have htb := World.block_lt_of_cell? w _ hc
  have hct := (hb.cell (p := ⟨tb, 0, none⟩) htb).trans hc
  have hlook := fun q : Nat => ((hm.below hb hm.lt).below (below_draws _ _ q) (hm.below hb hm.lt).lt).look_some keyOn_int (t := 129) (k := 3) (e := 3) Tryd.underlying129 Tryd.underlying3 (a := x.same) (v := .int .i64 j) ha true
  simp only [if_true] at hlook
  have hq : (x.same == 0) = false := by rw [beq_eq_false_iff_ne]; exact h0
  clear h0 hm ha hb hc
  go_enter Tryd.func107, Tryd.ntmps107
  go_wp2
  go_quiet (fail)
  go_wp2
  go_ret
  exact ⟨rfl, HB.out.trans (below_draws _ _ _)⟩
set_option maxRecDepth 100000 in
theorem Meet_new (tb mb : Nat) (m : List (Int × Value)) (x : Nod) (n : Int) (w : World) (h0 : x.same ≠ 0) (hc : w.cell? ⟨tb, 0, none⟩ = some (.map (some mb))) (hm : MapIs (fun n : Int => Value.int .i64 n) w mb m) (ha : assoc x.same m = none) :
    Calls Tryd.prog 107 #[.pointer (some ⟨tb, 0, none⟩), x.val, .int .i64 n] w fun e w' => e = .returned (.int .i64 n) ∧ MapIs (fun n : Int => Value.int .i64 n) w' mb (assocPut x.same (.int .i64 n) m) ∧ w.grownBy w' (some mb) := by
  have hb := (Below.refl w.heap.size w).alloc (Nat.le_refl _) (boxOf x)
  have HB := Lib.hid hb
  have htb := World.block_lt_of_cell? w _ hc
  have hct := (hb.cell (p := ⟨tb, 0, none⟩) htb).trans hc
  have HM := Lib.hid (fun q : Nat => ((hm.below hb hm.lt).below (below_draws _ _ q) (hm.below hb hm.lt).lt))
  have hlook := fun q : Nat => (HM.out q).look_none keyOn_int (t := 129) (k := 3) (e := 3) Tryd.underlying129 Tryd.underlying3 (a := x.same) ha (Tryd.zeroValue3 _) true
  simp only [if_true] at hlook
  have hq : (x.same == 0) = false := by rw [beq_eq_false_iff_ne]; exact h0
  clear h0 hm ha hb hc
  go_enter Tryd.func107, Tryd.ntmps107
  go_wp2
  go_quiet (fail)
  go_wp2
  clear hlook
  have hct5 := ((below_draws (w.alloc (boxOf x)).heap.size (w.alloc (boxOf x)) nq).cell (p := ⟨tb, 0, none⟩) (Nat.lt_of_lt_of_le htb HB.out.size)).trans hct
  obtain ⟨_, _, b2, _⟩ := ((nodAt_box w x 60).below (below_draws _ _ nq)).zero
  have HB5 := Lib.hid (HB.out.trans (below_draws _ _ nq))
  have HM5 := Lib.hid (HM.out nq)
  clear hct HM HB
  generalize (w.alloc (boxOf x)).drewN nq = w5 at *
  generalize w.heap.size = bx at b2
  obtain ⟨wp, hput, hmp, hgr⟩ := MapIs.put (HM5.out.below (Below.refl _ _).drew HM5.out.lt) keyOn_int (t := 129) (k := 3) (e := 3) Tryd.underlying129 Tryd.underlying3 x.same (.int .i64 n)
  have HMP := Lib.hid hmp
  have HGR := Lib.hid (grown_below HB5.out.drew hgr)
  clear hmp hgr
  go_still_tail 7, (by kernel_rfl)
  go_wp2
  go_ret
  exact ⟨rfl, HMP.out, HGR.out⟩
end Go.Proofs.YtaffgndickdbiaaDoor
