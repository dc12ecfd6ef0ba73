/-
  Texts: MemberWritesW.
-/
import Derived.Test.YtaffgndickdbiaaGreatDoorU16
set_option linter.unusedVariables false
set_option linter.unusedSimpArgs false
set_option linter.unusedSectionVars false
namespace Go.Creel
theorem memBytes_le (x : Ent) : (memBytes x).1.length ≤ 30000 := by
  by_cases h : entFault x = 0
  · rw [memBytes_ok h]
    have h1 := memPre_le (memRecs x)
    have h2 := memOwn_le (memHead x) x.data
    have h3 := (entRight h).data
    unfold memB
    simp only [List.length_append]; omega
  · rw [memBytes_bad h]; simp
end Go.Creel
namespace Go.Proofs.YtaffgndickdbiaaGreatDoor
open Go.Creel Go.RowKit
theorem pow10_laid_mw (w : World) (h : laidMetH Tryz.prog Rows.memberWritesRow.laid w) : Pow10 w := by
  obtain ⟨ps, hp, _⟩ := (show laidMet Tryz.prog Rows.memberWritesRow.laid w from h)
  exact tabIs_laid (g := 3) (t := 249) (e := 220) (n := 20) (by kernel_rfl) (by kernel_rfl) (by kernel_rfl) (by kernel_rfl) (by kernel_rfl) (by kernel_rfl) _ ps 2 hp rfl
set_option maxRecDepth 100000 in
set_option maxHeartbeats 2000000 in
theorem memberWrites_walk (w : World) (cs : List Value) (x : Ent) (h : EntC maxLen w cs x) (hsh : w.ShapedOpen Tryz.prog) (hL : laidMetH Tryz.prog Rows.memberWritesRow.laid w) :
    Calls Tryz.prog 3 #[.agg cs.toArray] w fun e w' => e = .returned (.bool true) ∧ Below w.heap.size w w' := by
  have HM := Lib.hid (maxOk_of w hsh)
  have HT := Lib.hid (pow10_laid_mw w hL)
  obtain ⟨rfl, hx⟩ := h
  have HX := Lib.hid hx
  have H1 := Lib.hid (fun W (hb : Below w.heap.size w W) => MemW_any x W (HM.out.below hb) (HX.out.below hb) (HT.out.below hb))
  have H2 := Lib.hid (fun W (hb : Below w.heap.size w W) => MemB_any x W (HX.out.below hb) (HT.out.below hb))
  have HLE := Lib.hid (memBytes_le x)
  have HBX := Lib.hid ((Below.refl w.heap.size w).alloc (Nat.le_refl _) (.cells #[.string x.path, .int .i64 x.kind, .string x.target, .int .i64 x.mt.mode, .int .i64 x.mt.uid, .int .i64 x.mt.gid, .string x.mt.user, .string x.mt.group, .int .i64 x.mt.second, .int .i64 x.mt.nano, .slice x.da x.data.length x.dcap] 26))
  have HEB := Lib.hid (entAt_box w x 26)
  clear hsh hL hx
  generalize memBytes x = p at *
  obtain ⟨l, e1⟩ := p
  show Calls Tryz.prog 3 #[x.val] w _
  go_enter Tryz.func3, Tryz.ntmps3
  go_wp2_with fail
  refine (H1.out _ HBX.out).mono ?_
  rintro e w1 ⟨v1, rfl, ho, hb⟩
  have HB1 := Lib.hid (HBX.out.trans (hb.mono HBX.out.size))
  have HE1 := Lib.hid (HEB.out.below hb)
  have HO1 := Lib.hid ho
  clear hb ho
  obtain ⟨h0, h1, h2, h3, h4, h5, h6, h7, h8, h9, h10⟩ := HE1.out.zero
  go_wp2_with fail
  refine (H2.out _ HB1.out).mono ?_
  rintro e w2 ⟨v2, rfl, ho, hb⟩
  have HB2 := Lib.hid (HB1.out.trans (hb.mono HB1.out.size))
  have HS1 := Lib.hid ((HO1.out.below hb).slice (N := maxLen) (Nat.le_trans HLE.out (by decide)))
  have HS2 := Lib.hid (ho.slice (N := maxLen) (Nat.le_trans HLE.out (by decide)))
  clear hb ho h0 h1 h2 h3 h4 h5 h6 h7 h8 h9 h10
  go_wp2_with fail
  refine (sameBytes_eq _ _ _ _ HS1.out HS2.out).mono ?_
  rintro e w3 ⟨rfl, rfl⟩
  go_wp2
  go_ret
  exact ⟨rfl, HB2.out⟩
end Go.Proofs.YtaffgndickdbiaaGreatDoor
