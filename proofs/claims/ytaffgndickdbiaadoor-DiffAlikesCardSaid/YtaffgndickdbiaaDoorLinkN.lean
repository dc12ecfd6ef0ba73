/-
  link.Names.
-/
import Derived.Test.YtaffgndickdbiaaDoorLinkNil
namespace Go.Creel
set_option linter.unusedVariables false
set_option linter.unusedSimpArgs false
open Go.RowKit
/-- the counts so far -/
def FMany (l : List Nod) (k : Nat) (m : List (Int × Value)) : Prop := ∀ f : Nat, assoc (f : Int) m = if manyN l k f = 0 then none else some (.int .i64 (manyN l k f : Int))
theorem FMany.start (l : List Nod) : FMany l 0 [] := fun f => by simp [assoc, manyN]
theorem FMany.put {l : List Nod} {k : Nat} {m : List (Int × Value)} (h : FMany l k m) : FMany l (k + 1) (assocPut (fstIdx l k : Int) (.int .i64 ((manyN l k (fstIdx l k) : Int) + 1)) m) := by
  intro f
  rw [assoc_put, manyN_succ]
  by_cases e : fstIdx l k = f
  · subst e
    rw [if_pos rfl, if_pos rfl, if_neg (by omega)]
    rfl
  · rw [if_neg (fun h => e (by omega)), if_neg e, Nat.add_zero]
    exact h f
theorem firstsL_at {l : List Nod} {n k : Nat} (h : k < n) : pieceI (firstsL l n) k = (fstIdx l k : Int) := by
  rw [pieceI_eq (by rw [firstsL_len]; exact h)]
  simp [firstsL]
end Go.Creel
namespace Go.Proofs.YtaffgndickdbiaaDoor
set_option linter.unusedVariables false
set_option linter.unusedSimpArgs false
open Go.Creel Go.RowKit
theorem Many_look {l : List Nod} {k mb : Nat} {m : List (Int × Value)} {w : World} (f : Nat) (hm : MapIs (fun n : Int => Value.int .i64 n) w mb m) (hf : FMany l k m) :
    (Instr.lookup 129 (.map (some mb)) (.int .i64 (f : Int)) false).run Tryd.prog w = .ok (.int .i64 (manyN l k f : Int)) w := by
  have h := hf f
  by_cases e : manyN l k f = 0
  · rw [if_pos e] at h
    have := hm.look_none keyOn_int (t := 129) (k := 3) (e := 3) Tryd.underlying129 Tryd.underlying3 (a := (f : Int)) h (Tryd.zeroValue3 _) false
    rw [e]
    exact this
  · rw [if_neg e] at h
    exact hm.look_some keyOn_int (t := 129) (k := 3) (e := 3) Tryd.underlying129 Tryd.underlying3 (a := (f : Int)) h false
set_option maxRecDepth 100000 in
set_option maxHeartbeats 4000000 in
theorem LinkN_any (v : Value) (l : List Nod) (w : World) (hM : MaxOk w) (h : SliceC maxLen 12 (NodC maxLen) w [v] l) :
    Calls Tryd.prog 78 #[v] w (RetIE 3 w (linkNames l)) := by
  obtain ⟨i0, hi, hz0, hz1, hz2⟩ := info_parts info_int
  have HI := Lib.hid (And.intro hi (And.intro hz0 (And.intro hz1 hz2)))
  have HCALL := Lib.hid (LinkL_any v l w hM h)
  clear h hM hi hz0 hz1 hz2
  have hmm := @run_makeMap Tryd.prog
  by_cases hE : treeFault l = 0
  · rw [linkFirsts_ok hE] at HCALL
    have HF := Lib.hid (linkNames_ok hE)
    have hfew := (treeFault_all hE).1
    clear hE
    go_enter Tryd.func78, Tryd.ntmps78
    go_wp2_with fail
    refine HCALL.out.mono ?_
    rintro e wa ⟨v1, rfl, ho, hb⟩
    have HBA0 := Lib.hid hb
    have hfl := firstsL_len l l.length
    obtain ⟨p, cap, rfl, hp⟩ := slice_formI ho
    rw [hfl] at ho hp ⊢
    have HP := Lib.hid hp
    have HO := Lib.hid (show OwnIs 3 wa w.heap.size (.slice p (firstsL l l.length).length cap) (firstsL l l.length) by rw [hfl]; exact ho)
    clear hb ho hp hfl
    have HB1 := Lib.hid ((Below.refl wa.heap.size wa).alloc (Nat.le_refl _) (.map #[] 0))
    have HM1 := Lib.hid (MapIs.made (fun n : Int => Value.int .i64 n) wa)
    have HSZ := Lib.hid (show wa.heap.size < (wa.alloc (.map #[] 0)).heap.size by simp)
    go_wp2
    clear hmm
    generalize hmb : wa.heap.size = mb at *
    have HMB := Lib.hid hmb
    clear hmb
    go_loopw [8, 23] (fun _ i wr => ∃ k : Nat, k ≤ l.length ∧ i = .int .i64 k ∧ Hid (Below mb wa wr) ∧ Hid (∃ m, MapIs (fun n : Int => Value.int .i64 n) wr mb m ∧ FMany l k m)) (fun _ i _ => l.length - (intOf i).toNat)
    case atStart => exact ⟨0, by omega, rfl, HB1, Lib.hid ⟨[], HM1.out, FMany.start l⟩⟩
    case round =>
      obtain ⟨k, hk, rfl, HB, HMM⟩ := hrel
      by_cases hlt : k < l.length
      · obtain ⟨g, rfl⟩ := HP.out (by omega)
        have hbx := (Below.refl wr.heap.size wr).alloc (Nat.le_refl _) (.cells #[.int .i64 (fstIdx l k : Int)] 3)
        have hc := (HO.out.below (HMB.out ▸ HB.out)).cell (j := k) (by rw [firstsL_len]; exact hlt)
        rw [firstsL_at hlt] at hc
        obtain ⟨m, hm1, hm2⟩ := HMM.out
        have hnk := manyN_le l k (fstIdx l k)
        have hp2 := hm2.put
        have hlook := Many_look (fstIdx l k) hm1 hm2
        generalize manyN l k (fstIdx l k) = n at *
        have HP2 := Lib.hid hp2
        generalize fstIdx l k = f at *
        obtain ⟨wp, hput, hmp, hgr⟩ := MapIs.put hm1 keyOn_int (t := 129) (k := 3) (e := 3) Tryd.underlying129 Tryd.underlying3 (f : Int) (.int .i64 ((n : Int) + 1))
        have HMP := Lib.hid hmp
        have HGR := Lib.hid hgr
        clear hm1 hm2 hp2 hmp hgr
        go_wp2
        go_roundw
        case rel => exact ⟨k + 1, by omega, by go_num, Lib.hid (HB.out.grown HGR.out (HMB.out ▸ HB.out.size) (fun x hx => by cases hx; exact Nat.le_refl _)), Lib.hid ⟨_, HMP.out, HP2.out⟩⟩
        case measure => simp [intOf]; omega
      · obtain rfl : k = l.length := by omega
        obtain ⟨w6, rfl⟩ : ∃ x, x = wr := ⟨wr, rfl⟩
        have HGE := Lib.hid (show w.heap.size ≤ w6.heap.size by have := HBA0.out.size; have := HB.out.size; omega)
        have hgew := HGE.out
        go_wp2_with (at_make; refine wpList_make_own _ rfl _ _ 102 rfl w6.heap.size 3 i0 (.int .i64 0) 1 Tryd.underlying102 HI.out.1 HI.out.2.1 HI.out.2.2.1 .i64 .i64 _ l.length rfl rfl (by first | rfl | omega) (by rw [HI.out.2.2.2]; omega) (by unfold maxLen; omega) (Nat.le_refl _) ?_; intro w5 hown hgr)
        have HOW5 := Lib.hid (show OwnIs 3 w5 w6.heap.size (.slice (some ⟨w6.heap.size, 0, none⟩) 0 l.length) (namesN l 0) from hown)
        have HB5 := Lib.hid ((Below.refl w6.heap.size w6).grown hgr (Nat.le_refl _) (fun x hx => by cases hx))
        have HM5 := Lib.hid (show ∃ m, MapIs (fun n : Int => Value.int .i64 n) w6 mb m ∧ mb < w6.heap.size ∧ FMany l l.length m by
          obtain ⟨m, a, c⟩ := HMM.out
          exact ⟨m, a, a.lt, c⟩)
        have HOL := Lib.hid (HO.out.below (HMB.out ▸ HB.out))
        clear hown hgr
        go_loopw [9, 11, 37] (fun v _ i wr2 => ∃ k : Nat, k ≤ l.length ∧ i = .int .i64 k ∧ Hid (OwnIs 3 wr2 w6.heap.size v (namesN l k)) ∧ Hid (Below w6.heap.size w6 wr2)) (fun _ _ i _ => l.length - (intOf i).toNat)
        case atStart => exact ⟨0, by omega, rfl, HOW5, HB5⟩
        case round =>
          obtain ⟨k, hk, rfl, HOW, HB2⟩ := hrel
          have hnl := namesN_len l k
          by_cases hlt : k < l.length
          · obtain ⟨g, rfl⟩ := HP.out (by omega)
            have hc := (HOL.out.below HB2.out).cell (j := k) (by rw [firstsL_len]; exact hlt)
            rw [firstsL_at hlt] at hc
            obtain ⟨m, hm1, hm2, hm3⟩ := HM5.out
            have hlook := Many_look (fstIdx l k) (hm1.below HB2.out hm2) hm3
            have HS := Lib.hid (namesN_succ l k)
            clear hm1 hm2 hm3
            generalize manyN l l.length (fstIdx l k) = n at *
            generalize fstIdx l k = f at *
            have HA := Lib.hid ((Below.refl wr.heap.size wr).alloc (Nat.le_refl _) (.cells #[.int .i64 (n : Int)] 3))
            have HOA := Lib.hid (OwnIs.below HOW.out HA.out)
            have HBA := Lib.hid (HB2.out.trans (HA.out.mono HB2.out.size))
            have HSA := Lib.hid (HBA.out.size)
            go_wp2_with (at_builtin; refine wpList_app _ rfl (.tmp 41) (.tmp 45) 102 102 rfl _ _ rfl rfl (n := (namesN l k).length) (fun ty => app_src _ _ _ _ w6.heap.size 3 i0 (.int .i64 0) 1 8 Tryd.underlying102 HI.out.1 HI.out.2.1 HI.out.2.2.1 HI.out.2.2.2 rfl (by decide) _ _ _ _ _ _ HOA.out (src_one wr _ _ _ Tryd.underlying102 _ rfl) (by unfold maxLen; omega) (by omega) HSA.out) ?_; intro v1 w4 ho hg _)
            have HO4 := Lib.hid (OwnIs.app (m := [(n : Int)]) ho)
            have HB4 := Lib.hid (below_app HBA.out hg HOA.out HSA.out)
            clear ho hg
            go_wp2
            go_roundw
            case rel => exact ⟨k + 1, by omega, by go_num, Lib.hid (by rw [HS.out]; exact HO4.out), HB4⟩
            case measure => simp [intOf]; omega
          · obtain rfl : k = l.length := by omega
            go_wp2
            go_ret2
            rw [HF.out]
            exact ⟨_, rfl, HOW.out.mono HGE.out, HBA0.out.trans ((HB.out.mono (HMB.out ▸ HBA0.out.size)).trans (HB2.out.mono HGE.out))⟩
  · rw [linkFirsts_bad hE] at HCALL
    have HF := Lib.hid (linkNames_bad hE)
    have HE := Lib.hid hE
    clear hE hmm
    go_enter Tryd.func78, Tryd.ntmps78
    go_wp2_with fail
    refine HCALL.out.mono ?_
    rintro e wc ⟨v1, rfl, ho, hb⟩
    have HBC := Lib.hid hb
    clear hb ho
    have hne := HE.out
    generalize treeFault l = q at *
    go_wp2
    go_ret2
    rw [HF.out]
    exact ⟨_, rfl, World.ownsRow_nil _ _ _ 1, HBC.out⟩
end Go.Proofs.YtaffgndickdbiaaDoor
