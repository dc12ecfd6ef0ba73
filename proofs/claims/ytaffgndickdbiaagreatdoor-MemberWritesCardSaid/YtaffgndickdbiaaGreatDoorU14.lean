/-
  Texts: MemW, MemRec.
-/
import Derived.Test.YtaffgndickdbiaaGreatDoorU11
import Derived.Test.YtaffgndickdbiaaGreatDoorU13
set_option linter.unusedVariables false
set_option linter.unusedSimpArgs false
set_option linter.unusedSectionVars false
namespace Go.Creel
open Go.RowKit
def RetM (t : TypeId) (w : World) (p : List UInt8 × Int) (e : Ending) (w' : World) : Prop := ∃ v, e = .returned (.tuple #[v, .int .i64 p.2]) ∧ OwnM t w' w.heap.size v p.1 ∧ Below w.heap.size w w'
theorem EntAt.data {w : World} {b : Nat} {x : Ent} (h : EntAt w b 0 x) : w.cell? ⟨b, 10, none⟩ = some (.slice x.da x.data.length x.dcap) := h.zero.2.2.2.2.2.2.2.2.2.2
end Go.Creel
namespace Go.Proofs.YtaffgndickdbiaaGreatDoor
open Go.Creel Go.RowKit
theorem conv_str (w : World) (s : ByteArray) : (convert 9 24 (.string s)).run Tryz.prog w = .ok (.slice (some ⟨w.heap.size, 0, none⟩) s.size (grownCap w s.size 0 5)) (Lib.bytesWorld w 5 s) :=
  Lib.run_convert_string_bytes w _ _ _ s Tryz.underlying9 Tryz.underlying24 Tryz.underlying5
theorem PaxHeadW_any (n : Nat) (w : World) (hn : n ≤ 10000) :
    Calls Tryz.prog 39 #[.agg #[.string ⟨#[64, 112, 97, 120]⟩, .string ⟨#[]⟩, .string ⟨#[]⟩, .int .i64 0, .int .i64 0, .int .i64 0, .int .i64 n, .int .i64 0, .int .u8 120, .string ⟨#[]⟩, .string ⟨#[]⟩]] w fun e w' => e = .returned (.tuple #[.string (headText (paxHead n)).1, .int .i64 (headText (paxHead n)).2]) ∧ Below w.heap.size w w' :=
  HeadWrite_any (paxHead n) w (by constructor <;> simp only [paxHead] <;> first | decide | (unfold i64; omega))
set_option maxRecDepth 100000 in
set_option maxHeartbeats 1000000 in
theorem MemW_ok (x : Ent) (w : World) (hM : MaxOk w) (hx : x.Ok maxLen w) (hE : entFault x = 0) (hT : Pow10 w) :
    Calls Tryz.prog 11 #[x.val] w (RetM 5 w (memB x, 0)) := by
  obtain ⟨i0, hi, hz0, hz1, hz2⟩ := info_parts info_byte2
  have HI := Lib.hid (And.intro hi (And.intro hz0 (And.intro hz1 hz2)))
  have HR := Lib.hid (entRight hE)
  have HBX := Lib.hid ((Below.refl w.heap.size w).alloc (Nat.le_refl _) (.cells #[.string x.path, .int .i64 x.kind, .string x.target, .int .i64 x.mt.mode, .int .i64 x.mt.uid, .int .i64 x.mt.gid, .string x.mt.user, .string x.mt.group, .int .i64 x.mt.second, .int .i64 x.mt.nano, .slice x.da x.data.length x.dcap] 26))
  have HEB := Lib.hid (entAt_box w x 26)
  have HPR := Lib.hid (fun W hb => PlanRight_any x W (hM.below (w' := W) hb) hx.path hx.target hx.mt (by obtain ⟨_, _, _, _, _, h, _⟩ := hx.data; exact h) hx.kind (Nat.le_refl _))
  rw [hE] at HPR
  have HXD := Lib.hid hx.data
  have HT := Lib.hid hT
  have HPK := Lib.hid (fun W h => Pack_any x W HR h)
  have HSM := Lib.hid (memRecs_small HR.out)
  have HMH := Lib.hid (memHead_small HR.out)
  have HLN := Lib.hid (rl7_len x)
  rw [rl7_eq] at HLN
  have hdl := HR.out.data
  have HF : Hid (∀ P M D, memPre (memRecs x) = P → (headText (memHead x)).1.data.toList = M → padFill x.data = D → memB x = (P ++ M) ++ D) := Lib.hid (fun P M D h1 h2 h3 => by unfold memB memOwn; rw [h1, h2, h3, List.append_assoc])
  clear hM hx hE hT hi hz0 hz1 hz2
  go_enter Tryz.func11, Tryz.ntmps11
  go_wp2_with fail
  refine (HPR.out _ HBX.out).mono ?_
  rintro e w1 ⟨rfl, hb⟩
  have HB1 := Lib.hid (HBX.out.trans (hb.mono HBX.out.size))
  have HE1 := Lib.hid (HEB.out.below hb)
  clear hb
  obtain ⟨h0, h1, h2, h3, h4, h5, h6, h7, h8, h9, h10⟩ := HE1.out.zero
  go_wp2_with fail
  refine (HPK.out _ (HT.out.below HB1.out)).mono ?_
  rintro e w2 ⟨b, v, rfl, s⟩
  have S := Lib.hid s
  have HB2 := Lib.hid (HB1.out.trans (S.out.bel.mono HB1.out.size))
  have HE2 := Lib.hid (HE1.out.below S.out.bel)
  clear s h0 h1 h2 h3 h4 h5 h6 h7 h8 h9 h10
  generalize memHead x = mh at *
  generalize memRecs x = l at *
  obtain ⟨a, cp, hv, hcp, _⟩ := OwnRecs.form2 S.out.own
  have c11 : w2.cell? ⟨b, 11, none⟩ = some v := S.out.cell 11
  subst hv
  go_upto_region 6 with fail
  go_cut [25] from 20 to 25 (fun u wy => ∃ q, u = .bool q ∧ Hid (q = decide (0 < l.length)) ∧ wy = w2)
  case first =>
    have hdd : decide ((0 : Int) < (l.length : Int)) = decide (0 < l.length) := by rw [decide_eq_decide]; omega
    go_wp2
    go_meet
    exact ⟨_, rfl, Lib.hid (by first | rfl | exact hdd | (rw [hdd])), rfl⟩
  case rest =>
  obtain ⟨q, rfl, HQ, rfl⟩ := hcut
  obtain ⟨w2, rfl⟩ : ∃ W : World, W = wc := ⟨_, rfl⟩
  go_step
  go_cut [6, 7, 8, 9, 10, 25] from 26 to 47 (fun u6 _ _ _ _ u25 wy => u25 = .bool q ∧ Hid (OwnM 5 wy w2.heap.size u6 (memPre l)) ∧ Hid (Below w2.heap.size w2 wy))
  case first =>
    cases q with
    | false =>
      have hl0 : l.length = 0 := by have := of_decide_eq_false HQ.out.symm; omega
      have HPN := Lib.hid (memPre_no hl0)
      clear hl0
      go_wp2
      go_meet
      exact ⟨rfl, Lib.hid (by rw [HPN.out]; exact OwnM.nil _ _ _), Lib.hid (Below.refl _ _)⟩
    | true =>
      have hl0 : ¬ l.length = 0 := by have := of_decide_eq_true HQ.out.symm; omega
      have HPY := Lib.hid (memPre_yes hl0)
      have HSL := Lib.hid (OwnRecs.slice S.out.own (by have := HLN.out; unfold maxLen; omega) HSM.out)
      have hpl := paxWrite_le l
      have HPW := Lib.hid (fun w h hT => PaxW_any (.slice a l.length cp) l w h hT)
      have hht := headText_le (paxHead (paxWrite l).1.size)
      clear hl0
      go_wp2_with fail
      refine (HPW.out _ HSL.out (HT.out.below HB2.out)).mono ?_
      rintro e w3 ⟨rfl, hb⟩
      have HB3 := Lib.hid hb
      clear hb HPW HSL
      generalize (paxWrite l).1 = pt at *
      generalize (paxWrite l).2 = pe at *
      go_wp2_with fail
      refine (PaxHeadW_any pt.size _ (by omega)).mono ?_
      rintro e w3' ⟨rfl, hb⟩
      have HB9 := Lib.hid (HB3.out.trans (hb.mono HB3.out.size))
      clear hb HB3
      generalize (headText (paxHead pt.size)).1 = ht at *
      generalize (headText (paxHead pt.size)).2 = he at *
      have hcv := fun w => conv_str w pt
      have HBD : Hid (([] : List UInt8).length + ht.data.toList.length ≤ 140737488355328) := Lib.hid (by rw [toL_len]; simp; omega)
      go_wp2_with (at_builtin; refine wpList_appM rfl (.tmp 41) (.tmp 42) 24 9 rfl _ _ rfl rfl (fun ty => app_m _ 24 9 5 ty i0 Tryz.underlying24 HI.out.1 HI.out.2.1 HI.out.2.2.1 HI.out.2.2.2 (OwnM.nil 5 _ w2.heap.size) (src_str Tryz.underlying9 ht) HBD.out HB9.out.size) ?_; intro v1 w4 ho hg; have HO4 := Lib.hid ho; have HB4 := Lib.hid (OwnM.grown HB9.out hg (OwnM.nil 5 _ w2.heap.size) HB9.out.size (Nat.le_refl _)); clear ho hg)
      have HCV := Lib.hid (conv_below w4 5 pt)
      have HCM := Lib.hid (OwnM.conv w4 5 pt (by unfold maxLen; omega))
      generalize grownCap w4 pt.size 0 5 = gc at *
      generalize Lib.bytesWorld w4 5 pt = w5 at *
      refine (Fill_any (N := maxLen) _ pt.data.toList w5 (HCM.out.slice (by rw [toL_len]; unfold maxLen; omega)) (by rw [toL_len]; omega)).mono ?_
      rintro e w6 ⟨v6, rfl, ho, hb⟩
      have HO6 := Lib.hid (OwnBs.marked ho)
      have HB6 := Lib.hid ((HB4.out.trans (HCV.out.mono HB4.out.size)).trans (hb.mono (Nat.le_trans HB4.out.size HCV.out.size)))
      have HO5 := Lib.hid ((HO4.out.below HCV.out).below hb)
      clear ho hb
      have hpf := padFill_le pt.data.toList
      rw [toL_len] at hpf
      have HBE : Hid (([] ++ ht.data.toList : List UInt8).length + (padFill pt.data.toList).length ≤ 140737488355328) := Lib.hid (by rw [List.nil_append, toL_len]; omega)
      go_wp2_with (at_builtin; refine wpList_appM rfl (.tmp 43) (.tmp 46) 24 24 rfl _ _ rfl rfl (fun ty => app_m _ 24 24 5 ty i0 Tryz.underlying24 HI.out.1 HI.out.2.1 HI.out.2.2.1 HI.out.2.2.2 HO5.out (src_bytes (N := maxLen) Tryz.underlying24 (HO6.out.slice (by unfold maxLen; omega))) HBE.out HB6.out.size) ?_; intro v7 w7 ho hg; have HO7 := Lib.hid ho; have HB7 := Lib.hid (OwnM.grown HB6.out hg HO5.out HB6.out.size (Nat.le_refl _)); clear ho hg)
      go_meet
      exact ⟨rfl, Lib.hid (by rw [HPY.out]; exact HO7.out), HB7⟩
  case rest =>
  obtain ⟨rfl, HOP, HBP⟩ := hcut
  obtain ⟨w3, rfl⟩ : ∃ W : World, W = wc := ⟨_, rfl⟩
  obtain ⟨vo, rfl⟩ : ∃ V : Value, V = u6 := ⟨_, rfl⟩
  have S3 := Lib.hid (S.out.below HBP.out)
  have HB3 := HBP
  have HO3 := HOP
  have HPL := Lib.hid (memPre_le l)
  have HF2 := Lib.hid (fun M D => HF.out (memPre l) M D rfl)
  clear S HOP HBP HE1 HEB HB1 c11 HF
  generalize memPre l = P at *
  have c0 : w3.cell? ⟨b, 0, none⟩ = some (.string mh.nm) := S3.out.cell 0
  have c1 : w3.cell? ⟨b, 1, none⟩ = some (.string mh.px) := S3.out.cell 1
  have c2 : w3.cell? ⟨b, 2, none⟩ = some (.string mh.lk) := S3.out.cell 2
  have c3 : w3.cell? ⟨b, 3, none⟩ = some (.int .i64 mh.mode) := S3.out.cell 3
  have c4 : w3.cell? ⟨b, 4, none⟩ = some (.int .i64 mh.uid) := S3.out.cell 4
  have c5 : w3.cell? ⟨b, 5, none⟩ = some (.int .i64 mh.gid) := S3.out.cell 5
  have c6 : w3.cell? ⟨b, 6, none⟩ = some (.int .i64 mh.size) := S3.out.cell 6
  have c7 : w3.cell? ⟨b, 7, none⟩ = some (.int .i64 mh.time) := S3.out.cell 7
  have c8 : w3.cell? ⟨b, 8, none⟩ = some (.int .u8 mh.typ.toNat) := S3.out.cell 8
  have c9 : w3.cell? ⟨b, 9, none⟩ = some (.string mh.user) := S3.out.cell 9
  have c10 : w3.cell? ⟨b, 10, none⟩ = some (.string mh.group) := S3.out.cell 10
  go_wp2_with fail
  refine (HeadWrite_any mh _ HMH.out).mono ?_
  rintro e w4 ⟨rfl, hb⟩
  have HB4 := Lib.hid (HB3.out.trans (hb.mono HB3.out.size))
  have HE4 := Lib.hid (HE2.out.below HB4.out)
  have HO4 := Lib.hid (HO3.out.below hb)
  have hht := headText_le mh
  have HF3 := Lib.hid (fun D => HF2.out _ D rfl)
  clear hb c0 c1 c2 c3 c4 c5 c6 c7 c8 c9 c10 S3 HO3 HB3 HF2
  generalize (headText mh).1 = ht at *
  generalize (headText mh).2 = he at *
  have HXD4 := Lib.hid (fun W (hb : Below w2.heap.size w2 W) => HXD.out.below (w' := W) (fun _ _ h => h) (HB2.out.trans (hb.mono HB2.out.size)))
  have hpd := padFill_le x.data
  have hpl := HPL.out
  have HBD : Hid (P.length + ht.data.toList.length ≤ 140737488355328) := Lib.hid (by rw [toL_len]; omega)
  have HBE : Hid ((P ++ ht.data.toList).length + (padFill x.data).length ≤ 140737488355328) := Lib.hid (by rw [List.length_append, toL_len]; omega)
  have HBD4 := Lib.hid (HB4.out.drew)
  have HOD4 := Lib.hid (HO4.out.below (Below.refl _ _).drew)
  have HED4 := Lib.hid (HE4.out.below (Below.refl _ _).drew)
  go_upto_region 11 with fail
  refine wp_region_noPanic ?_
  refine wp_region_held_drew (S := fun w' => w'.cell? ⟨w.heap.size, 10, none⟩ = some (.slice x.da x.data.length x.dcap)) (by kernel_rfl) HED4.out.data (fun hHeld => ?_)
  refine wpAnyH_take (i := 0) (v := _) rfl (by kernel_rfl) (by kernel_rfl) (by kernel_rfl) (fun _ _ _ h => h) (Or.inl ⟨by rfl, fun w5 hSw => (by (try dsimp only at hSw); go_simp; try with_reducible rfl)⟩) hHeld ?_
  try simp only [List.getElem_toArray, List.getElem_cons_succ, List.getElem_cons_zero, Act.put, List.setIfInBounds_toArray, List.set_cons_zero, List.set_cons_succ]
  refine wpAnyH_take (i := 1) (v := _) rfl (by kernel_rfl) (by kernel_rfl) (by kernel_rfl) (fun _ _ _ h => h) (Or.inl ⟨by rfl, fun w5 hSw => (by (try dsimp only at hSw); go_simp; try with_reducible rfl)⟩) hHeld ?_
  try simp only [List.getElem_toArray, List.getElem_cons_succ, List.getElem_cons_zero, Act.put, List.setIfInBounds_toArray, List.set_cons_zero, List.set_cons_succ]
  refine wpAnyH_take (i := 3) (v := _) rfl (by kernel_rfl) (by kernel_rfl) (by kernel_rfl) (fun _ _ _ h => h) (Or.inl ⟨by rfl, fun w5 hSw => (by (try dsimp only at hSw); go_simp; try with_reducible rfl)⟩) hHeld ?_
  try simp only [List.getElem_toArray, List.getElem_cons_succ, List.getElem_cons_zero, Act.put, List.setIfInBounds_toArray, List.set_cons_zero, List.set_cons_succ]
  refine wpAnyH_take (i := 4) (v := _) rfl (by kernel_rfl) (by kernel_rfl) (by kernel_rfl) (fun _ _ _ h => h) (Or.inl ⟨by rfl, fun w5 hSw => (by (try dsimp only at hSw); go_simp; try with_reducible rfl)⟩) hHeld ?_
  try simp only [List.getElem_toArray, List.getElem_cons_succ, List.getElem_cons_zero, Act.put, List.setIfInBounds_toArray, List.set_cons_zero, List.set_cons_succ]
  refine wpAnyH_ready (rs := [2]) (by kernel_rfl) (by simp) ?_
  refine AllReadyH.cons rfl (fun K5 hK5 => ?_) AllReadyH.nil
  refine step_appM (w := w4.drew) rfl (.tmp 56) (.tmp 57) 24 9 rfl vo (.string ht) (by simp [Act.eval, Act.put]) (by simp [Act.eval, Act.put]) (fun ty => app_m _ 24 9 5 ty i0 Tryz.underlying24 HI.out.1 HI.out.2.1 HI.out.2.2.1 HI.out.2.2.2 HOD4.out (src_str Tryz.underlying9 ht) HBD.out HBD4.out.size) ?_
  intro v5 w5 ho hg
  have HO5 := Lib.hid ho
  have HB5 := Lib.hid (OwnM.grown HBD4.out hg HOD4.out HBD4.out.size (Nat.le_refl _))
  clear ho hg
  refine hK5.out _ _ ((HE2.out.below HB5.out).data) (fun hHeld => ?_)
  clear hK5 K5
  try simp only [List.getElem_toArray, List.getElem_cons_succ, List.getElem_cons_zero, Act.put, List.setIfInBounds_toArray, List.set_cons_zero, List.set_cons_succ]
  refine wpAnyH_ready (rs := [5]) (by kernel_rfl) (by simp) ?_
  refine AllReadyH.cons rfl (fun K5 hK5 => ?_) AllReadyH.nil
  rw [if_pos (by rfl)]
  go_wp2_with (go_at_call 40; refine (Fill_any (N := maxLen) _ x.data _ (HXD4.out _ HB5.out) (by omega)).mono ?_; rintro e w6 ⟨v6, rfl, ho, hb⟩)
  have HO6 := Lib.hid (OwnBs.marked ho)
  have HB6 := Lib.hid (HB5.out.trans (hb.mono HB5.out.size))
  have HO5b := Lib.hid (HO5.out.below hb)
  clear ho hb
  refine hK5.out _ _ ((HE2.out.below HB6.out).data) (fun hHeld => ?_)
  clear hK5 K5
  try simp only [List.getElem_toArray, List.getElem_cons_succ, List.getElem_cons_zero, Act.put, List.setIfInBounds_toArray, List.set_cons_zero, List.set_cons_succ]
  refine wpAnyH_ready (rs := [6]) (by kernel_rfl) (by simp) ?_
  refine AllReadyH.cons rfl (fun K5 hK5 => ?_) AllReadyH.nil
  refine step_appM (w := w6) rfl (.tmp 58) (.tmp 61) 24 24 rfl v5 v6 (by simp [Act.eval, Act.put]) (by simp [Act.eval, Act.put]) (fun ty => app_m _ 24 24 5 ty i0 Tryz.underlying24 HI.out.1 HI.out.2.1 HI.out.2.2.1 HI.out.2.2.2 HO5b.out (src_bytes (N := maxLen) Tryz.underlying24 (HO6.out.slice (by unfold maxLen; omega))) HBE.out HB6.out.size) ?_
  intro v7 w7 ho hg
  have HO7 := Lib.hid ho
  have HB7 := Lib.hid (OwnM.grown HB6.out hg HO5b.out HB6.out.size (Nat.le_refl _))
  clear ho hg
  refine hK5.out _ _ ((HE2.out.below HB7.out).data) (fun hHeld => ?_)
  clear hK5 K5
  try simp only [List.getElem_toArray, List.getElem_cons_succ, List.getElem_cons_zero, Act.put, List.setIfInBounds_toArray, List.set_cons_zero, List.set_cons_succ]
  refine wpAnyH_take (i := 7) (v := _) rfl (by kernel_rfl) (by kernel_rfl) (by kernel_rfl) (fun _ _ _ h => h) (Or.inl ⟨by rfl, fun w5 hSw => (by (try dsimp only at hSw); go_simp; try with_reducible rfl)⟩) hHeld ?_
  try simp only [List.getElem_toArray, List.getElem_cons_succ, List.getElem_cons_zero, Act.put, List.setIfInBounds_toArray, List.set_cons_zero, List.set_cons_succ]
  refine wpAnyH_take (i := 8) (v := _) rfl (by kernel_rfl) (by kernel_rfl) (by kernel_rfl) (fun _ _ _ h => h) (Or.inl ⟨by rfl, fun w5 hSw => (by (try dsimp only at hSw); go_simp; try with_reducible rfl)⟩) hHeld ?_
  try simp only [List.getElem_toArray, List.getElem_cons_succ, List.getElem_cons_zero, Act.put, List.setIfInBounds_toArray, List.set_cons_zero, List.set_cons_succ]
  refine wpAnyH_done (by kernel_rfl) ?_ _
  refine NoPanic.normal ?_
  go_wp2
  go_ret2
  exact ⟨_, rfl, by rw [HF3.out _ rfl]; exact HO7.out.mono HB2.out.size, HB2.out.trans (HB7.out.mono HB2.out.size)⟩
set_option maxRecDepth 100000 in
set_option maxHeartbeats 1000000 in
theorem MemW_any (x : Ent) (w : World) (hM : MaxOk w) (hx : x.Ok maxLen w) (hT : Pow10 w) :
    Calls Tryz.prog 11 #[x.val] w (RetM 5 w (memBytes x)) := by
  by_cases hE : entFault x = 0
  · rw [memBytes_ok hE]
    exact MemW_ok x w hM hx hE hT
  · rw [memBytes_bad hE]
    have HBX := Lib.hid ((Below.refl w.heap.size w).alloc (Nat.le_refl _) (.cells #[.string x.path, .int .i64 x.kind, .string x.target, .int .i64 x.mt.mode, .int .i64 x.mt.uid, .int .i64 x.mt.gid, .string x.mt.user, .string x.mt.group, .int .i64 x.mt.second, .int .i64 x.mt.nano, .slice x.da x.data.length x.dcap] 26))
    have HPR := Lib.hid (fun W hb => PlanRight_any x W (hM.below (w' := W) hb) hx.path hx.target hx.mt (by obtain ⟨_, _, _, _, _, h, _⟩ := hx.data; exact h) hx.kind (Nat.le_refl _))
    generalize entFault x = q at *
    have hq : (q != 0) = true := by rw [bne_iff_ne]; exact hE
    clear hM hx hE hT
    go_enter Tryz.func11, Tryz.ntmps11
    go_wp2_with fail
    refine (HPR.out _ HBX.out).mono ?_
    rintro e w1 ⟨rfl, hb⟩
    have HB1 := Lib.hid (HBX.out.trans (hb.mono HBX.out.size))
    clear hb
    go_wp2
    go_ret2
    exact ⟨_, rfl, OwnM.nil _ _ _, HB1.out⟩
end Go.Proofs.YtaffgndickdbiaaGreatDoor
namespace Go.Creel
def recIf (b : Bool) (k v : ByteArray) : List Rec := if b then [⟨k, v⟩] else []
def MetAt (w : World) (b : Nat) (m : Meta) : Prop := w.cell? ⟨b, 0, none⟩ = some (.int .i64 m.mode) ∧ w.cell? ⟨b, 1, none⟩ = some (.int .i64 m.uid) ∧ w.cell? ⟨b, 2, none⟩ = some (.int .i64 m.gid) ∧ w.cell? ⟨b, 3, none⟩ = some (.string m.user) ∧ w.cell? ⟨b, 4, none⟩ = some (.string m.group) ∧ w.cell? ⟨b, 5, none⟩ = some (.int .i64 m.second) ∧ w.cell? ⟨b, 6, none⟩ = some (.int .i64 m.nano)
theorem recIf_num (k : ByteArray) (n : Int) : recIf (decide (2097152 ≤ n)) k (itoaB n) = recNum k n 2097151 := by
  unfold recIf recNum
  by_cases h : 2097151 < n
  · rw [if_pos (by simpa using (show 2097152 ≤ n by omega)), if_pos h]
  · rw [if_neg (by simpa using (show ¬ 2097152 ≤ n by omega)), if_neg h]
theorem recIf_text (k s : ByteArray) (m : Nat) (M : Int) (hM : M = m) : recIf (decide (M < (s.size : Int))) k s = recText1 k s m := by
  subst hM
  unfold recIf recText1
  by_cases h : m < s.size
  · rw [if_pos (by simpa using h), if_pos h]
  · rw [if_neg (by simpa using h), if_neg h]
theorem recIf_path (s : ByteArray) : recIf ((cutTwo s).2.2 != 0) kPath s = recPath s := by
  unfold recIf recPath
  by_cases h : (cutTwo s).2.2 = 0
  · rw [if_neg (by simpa using h), if_pos h]
  · rw [if_pos (by simpa using h), if_neg h]
theorem metAt_new (w : World) (m : Meta) (t : TypeId) : MetAt (w.alloc (.cells #[.int .i64 m.mode, .int .i64 m.uid, .int .i64 m.gid, .string m.user, .string m.group, .int .i64 m.second, .int .i64 m.nano] t)) w.heap.size m := by
  unfold MetAt
  refine ⟨?_, ?_, ?_, ?_, ?_, ?_, ?_⟩ <;> simp
theorem RecG.met {tR tP : TypeId} {w0 w : World} {b bm : Nat} {cs : Array Value} {v : Value} {l : List Rec} {m : Meta} (h : RecG tR tP w0 w b cs v l) (hm : MetAt w0 bm m) (hne : bm ≠ b) : MetAt w bm m := by
  obtain ⟨h0, h1, h2, h3, h4, h5, h6⟩ := hm
  exact ⟨h.other h0 hne, h.other h1 hne, h.other h2 hne, h.other h3 hne, h.other h4 hne, h.other h5 hne, h.other h6 hne⟩
theorem RecG.ent {tR tP : TypeId} {w0 w : World} {b bx : Nat} {cs : Array Value} {v : Value} {l : List Rec} {x : Ent} (h : RecG tR tP w0 w b cs v l) (hm : EntAt w0 bx 0 x) (hne : bx ≠ b) : EntAt w bx 0 x := by
  obtain ⟨h0, h1, h2, h3, h4, h5, h6, h7, h8, h9, h10⟩ := hm
  exact ⟨h.other h0 hne, h.other h1 hne, h.other h2 hne, h.other h3 hne, h.other h4 hne, h.other h5 hne, h.other h6 hne, h.other h7 hne, h.other h8 hne, h.other h9 hne, h.other h10 hne⟩
end Go.Creel
namespace Go.Proofs.YtaffgndickdbiaaGreatDoor
open Go.Creel Go.RowKit
abbrev tRecs : TypeId := 63
set_option maxRecDepth 100000 in
set_option maxHeartbeats 2000000 in
theorem Add_any (b : Nat) (is : Bool) (key value : ByteArray) (w0 w : World) (v : Value) (l : List Rec) (s : RecG tRecE tRecs w0 w b #[v] v l) (hl : l.length ≤ 100) :
    Calls Tryz.prog 102 #[.bool is, .string key, .string value, .pointer (some ⟨b, 0, none⟩)] w fun e w' => e = .returned (.tuple #[]) ∧ ∃ v', RecG tRecE tRecs w0 w' b #[v'] v' (l ++ recIf is key value) := by
  cases is with
  | false =>
    have H := Lib.hid s
    clear s
    go_enter Tryz.func102, Tryz.ntmps102
    go_wp2
    go_end0
    exact ⟨rfl, _, by rw [show recIf false key value = [] from rfl, List.append_nil]; exact H.out⟩
  | true =>
    obtain ⟨i0, hi, hz0, hz1, hz2⟩ := info_parts info_record
    have HI := Lib.hid (And.intro hi (And.intro hz0 (And.intro hz1 hz2)))
    have H := Lib.hid s
    have HBA := Lib.hid ((Below.refl w.heap.size w).alloc (Nat.le_refl _) (.cells #[.string key, .string value] 85))
    have H3 := Lib.hid (H.out.below HBA.out)
    have HW0 := Lib.hid H3.out.size
    have c0 : w.cell? ⟨b, 0, none⟩ = some v := H.out.cell 0
    have hlt := s.lt
    clear hi hz0 hz1 hz2 s
    go_enter Tryz.func102, Tryz.ntmps102
    go_wp2_with (at_builtin; refine wpList_app _ rfl (.tmp 8) (.tmp 12) 63 63 rfl _ _ rfl rfl (fun ty => app_src _ 63 63 ty w0.heap.size 85 i0 _ 2 32 Tryz.underlying63 HI.out.1 HI.out.2.1 HI.out.2.2.1 HI.out.2.2.2 rfl (by decide) _ _ l.length 1 _ _ H3.out.own (src_rec w _ _ _ Tryz.underlying63 ⟨key, value⟩) (by unfold maxLen; omega) (by omega) HW0.out) ?_; intro v4 w4 ho2 hg2 hv2; have HZ := Lib.hid (And.intro ho2 (And.intro hg2 hv2.2)); have e1 : w4.cell? ⟨b, 0, none⟩ = some v := H3.out.cell4 hg2 0; have e2 := H3.out.free4 hg2 0; obtain ⟨g4, cp4, rfl⟩ := ownsRow_form2 ho2; clear ho2 hg2 hv2)
    go_end0
    exact ⟨rfl, _, H3.out.say (r := ⟨key, value⟩) 0 HZ.out.1 HZ.out.2.1 rfl⟩
set_option maxRecDepth 100000 in
set_option maxHeartbeats 4000000 in
theorem MemRecs_ok (x : Ent) (w : World) (hx : x.Ok maxLen w) (hE : entFault x = 0) (hT : Pow10 w) :
    Calls Tryz.prog 42 #[x.val] w (RetRecs tRecE w (memRecs x, 0)) := by
  have HR := Lib.hid (entRight hE)
  have HBX := Lib.hid ((Below.refl w.heap.size w).alloc (Nat.le_refl _) (.cells #[.string x.path, .int .i64 x.kind, .string x.target, .int .i64 x.mt.mode, .int .i64 x.mt.uid, .int .i64 x.mt.gid, .string x.mt.user, .string x.mt.group, .int .i64 x.mt.second, .int .i64 x.mt.nano, .slice x.da x.data.length x.dcap] 26))
  have HEB := Lib.hid (entAt_box w x 26)
  have HPR := Lib.hid (fun W => EntryFault_any x W hx.path hx.target hx.mt (by obtain ⟨_, _, _, _, _, h, _⟩ := hx.data; exact h) hx.kind (Nat.le_refl _))
  rw [hE] at HPR
  have HT := Lib.hid (hT.below HBX.out)
  have HTW := Lib.hid hT
  have hgi := HR.out.mt.gid
  have hui := HR.out.mt.uid
  have hus := HR.out.mt.user
  have hgs := HR.out.mt.group
  have hts := HR.out.target
  have hps := HR.out.pathSize
  have hsec := HR.out.mt.second
  have hnan := HR.out.mt.nano
  clear hx hE hT
  go_enter Tryz.func42, Tryz.ntmps42
  go_wp2_with fail
  refine (HPR.out _).mono ?_
  rintro e wa ⟨rfl, hb⟩
  have HBA := Lib.hid (HBX.out.trans (hb.mono HBX.out.size))
  have HEA := Lib.hid (HEB.out.below hb)
  have HTA := Lib.hid (HT.out.below hb)
  have hxa := HEB.out.lt
  have hws : w.heap.size < wa.heap.size := Nat.lt_of_lt_of_le hxa hb.size
  clear hb hxa HEB HT HBX
  obtain ⟨h0, h1, h2, h3, h4, h5, h6, h7, h8, h9, h10⟩ := HEA.out.zero
  go_upto_region 7 with fail
  have HO := Lib.hid ((Below.refl wa.heap.size wa).alloc (Nat.le_refl _) (.cells #[.slice none 0 0] tRecs))
  have HMM := Lib.hid (HO.out.alloc HO.out.size (.cells #[.int .i64 x.mt.mode, .int .i64 x.mt.uid, .int .i64 x.mt.gid, .string x.mt.user, .string x.mt.group, .int .i64 x.mt.second, .int .i64 x.mt.nano] 23))
  have HMT0 := Lib.hid (metAt_new (wa.alloc (.cells #[.slice none 0 0] tRecs)) x.mt 23)
  have HE := Lib.hid (HEA.out.below HMM.out)
  have HTM := Lib.hid (HTA.out.below HMM.out)
  have hso : (wa.alloc (.cells #[.slice none 0 0] tRecs)).heap.size = wa.heap.size + 1 := by simp
  have G0 : Hid (RecG tRecE tRecs ((wa.alloc (.cells #[.slice none 0 0] tRecs)).alloc (.cells #[.int .i64 x.mt.mode, .int .i64 x.mt.uid, .int .i64 x.mt.gid, .string x.mt.user, .string x.mt.group, .int .i64 x.mt.second, .int .i64 x.mt.nano] 23)) ((wa.alloc (.cells #[.slice none 0 0] tRecs)).alloc (.cells #[.int .i64 x.mt.mode, .int .i64 x.mt.uid, .int .i64 x.mt.gid, .string x.mt.user, .string x.mt.group, .int .i64 x.mt.second, .int .i64 x.mt.nano] 23)) wa.heap.size #[.slice none 0 0] (.slice none 0 0) []) := Lib.hid ⟨heap_alloc2_old _ _ _, OwnRecs.nil _ _ _, by simp; omega, grown_by_below (Below.refl _ _)⟩
  have HBM := Lib.hid (HBA.out.trans (HMM.out.mono HBA.out.size))
  rw [hso] at HMT0
  clear HO HMM h0 h1 h2 h3 h4 h5 h6 h7 h8 h9 h10 HEA HTA
  generalize (wa.alloc (.cells #[.slice none 0 0] tRecs)).alloc (.cells #[.int .i64 x.mt.mode, .int .i64 x.mt.uid, .int .i64 x.mt.gid, .string x.mt.user, .string x.mt.group, .int .i64 x.mt.second, .int .i64 x.mt.nano] 23) = wm at *
  try simp only [hso]
  clear hso
  generalize hbo : wa.heap.size = bo at *
  generalize hbm : bo + 1 = bm at *
  have hxo : w.heap.size ≠ bo := by omega
  have hmo : bm ≠ bo := by omega
  have HMT := HMT0
  have G := G0
  clear HMT0 G0
  have HLOW : Hid (w.heap.size ≤ bo) := Lib.hid (by omega)
  obtain ⟨h0, h1, h2, h3, h4, h5, h6, h7, h8, h9, h10⟩ := HE.out.zero
  obtain ⟨m0, m1, m2, m3, m4, m5, m6⟩ := HMT.out
  go_wp2_with fail
  refine (TimeText_any x.mt.second x.mt.nano _ (by unfold i64; omega) (by unfold i64; omega) HTM.out).mono ?_
  rintro e w1 ⟨rfl, hb⟩
  have G1 := Lib.hid (G.out.below hb)
  clear hb G h0 h1 h2 h3 h4 h5 h6 h7 h8 h9 h10 m0 m1 m2 m3 m4 m5 m6
  obtain ⟨h0, h1, h2, h3, h4, h5, h6, h7, h8, h9, h10⟩ := (G1.out.ent HE.out hxo).zero
  obtain ⟨m0, m1, m2, m3, m4, m5, m6⟩ := G1.out.met HMT.out hmo
  go_wp2_with fail
  refine (CutTwo_any x.path _ (by unfold maxLen; omega)).mono ?_
  rintro e w2 ⟨rfl, hb⟩
  have G := Lib.hid (G1.out.below hb)
  clear hb G1 h0 h1 h2 h3 h4 h5 h6 h7 h8 h9 h10 m0 m1 m2 m3 m4 m5 m6
  obtain ⟨w1, rfl⟩ : ∃ W : World, W = w2 := ⟨_, rfl⟩
  obtain ⟨v, hv⟩ : ∃ V : Value, V = .slice none 0 0 := ⟨_, rfl⟩
  rw [← hv] at G
  clear hv
  obtain ⟨h0, h1, h2, h3, h4, h5, h6, h7, h8, h9, h10⟩ := (G.out.ent HE.out hxo).zero
  obtain ⟨m0, m1, m2, m3, m4, m5, m6⟩ := G.out.met HMT.out hmo
  go_upto_region 9 with fail
  have hdr : RecG tRecE tRecs wm w1.drew bo #[v] v ([]) := G.out.below ((Below.refl _ _).drew)
  have HITO := Lib.hid (fun W (hW : RecG tRecE tRecs wm W bo #[v] v ([])) => show Calls Tryz.prog 104 #[.int .i64 x.mt.gid] W (fun e w' => e = .returned (.string (itoaB x.mt.gid)) ∧ w'.cell? ⟨bm, 2, none⟩ = some (.int .i64 x.mt.gid) ∧ RecG tRecE tRecs wm w' bo #[v] v ([])) from
    (Itoa_any x.mt.gid W (by unfold i64; omega) (HTW.out.below (hW.bel HBM.out HLOW.out))).mono fun e w' hh => by
      have g := hW.below hh.2
      exact ⟨hh.1, (g.met HMT.out hmo).2.2.1, g⟩)
  have HADD := Lib.hid (fun W (hW : RecG tRecE tRecs wm W bo #[v] v ([])) => show Calls Tryz.prog 102 #[.bool (decide (2097152 ≤ x.mt.gid)), .string kGid, .string (itoaB x.mt.gid), .pointer (some ⟨bo, 0, none⟩)] W (fun e w' => e = .returned (.tuple #[]) ∧ w'.cell? ⟨bm, 2, none⟩ = some (.int .i64 x.mt.gid) ∧ Hid (∃ v, RecG tRecE tRecs wm w' bo #[v] v (rl1 x))) from
    (Add_any bo _ kGid _ _ W _ _ hW (by simp)).mono fun e w' hh => by
      obtain ⟨he, v', g⟩ := hh
      refine ⟨he, (g.met HMT.out hmo).2.2.1, Lib.hid ⟨v', ?_⟩⟩
      rw [recIf_num] at g
      exact (by rw [List.nil_append] at g; exact g))
  go_upto_region 9 with fail
  go_cut [43] from 36 to 43 (fun u wy => Hid (∃ v, RecG tRecE tRecs wm wy bo #[v] v (rl1 x)))
  case first =>
    go_region_held3 (fun w' => w'.cell? ⟨bm, 2, none⟩ = some (.int .i64 x.mt.gid)) (go_keep)
      (first
        | (go_at_call 104; refine (HITO.out _ ?_).mono ?_; assumption; rintro e w3 ⟨rfl, r0, hg3⟩)
        | (go_at_call 102; refine (HADD.out _ ?_).mono ?_; assumption; rintro e w3 ⟨rfl, r0, hg4⟩))
    go_wp2_with fail
    go_meet
    case rel => exact hg4
  case rest =>
  have HS := hcut
  obtain ⟨v2, g⟩ := HS.out
  clear HITO HADD hdr HS hcut
  obtain ⟨w2, rfl⟩ : ∃ W : World, W = wc := ⟨_, rfl⟩
  have G2 : Hid (RecG tRecE tRecs wm w2 bo #[v2] v2 (rl1 x)) := Lib.hid (by exact g)
  clear g G h0 h1 h2 h3 h4 h5 h6 h7 h8 h9 h10 m0 m1 m2 m3 m4 m5 m6
  obtain ⟨v, rfl⟩ : ∃ V : Value, V = v2 := ⟨_, rfl⟩
  obtain ⟨w1, rfl⟩ : ∃ W : World, W = w2 := ⟨_, rfl⟩
  have G := G2
  clear G2
  obtain ⟨h0, h1, h2, h3, h4, h5, h6, h7, h8, h9, h10⟩ := (G.out.ent HE.out hxo).zero
  obtain ⟨m0, m1, m2, m3, m4, m5, m6⟩ := G.out.met HMT.out hmo
  go_wp2_with fail
  refine (Add_any bo _ kGname x.mt.group _ _ _ _ G.out (Nat.le_trans (rl1_len x) (by omega))).mono ?_
  rintro e w2 ⟨rfl, v2, g⟩
  rw [recIf_text _ _ 31 31 rfl] at g
  have G2 : Hid (RecG tRecE tRecs wm w2 bo #[v2] v2 (rl2 x)) := Lib.hid (by exact g)
  clear g G h0 h1 h2 h3 h4 h5 h6 h7 h8 h9 h10 m0 m1 m2 m3 m4 m5 m6
  obtain ⟨v, rfl⟩ : ∃ V : Value, V = v2 := ⟨_, rfl⟩
  obtain ⟨w1, rfl⟩ : ∃ W : World, W = w2 := ⟨_, rfl⟩
  have G := G2
  clear G2
  obtain ⟨h0, h1, h2, h3, h4, h5, h6, h7, h8, h9, h10⟩ := (G.out.ent HE.out hxo).zero
  obtain ⟨m0, m1, m2, m3, m4, m5, m6⟩ := G.out.met HMT.out hmo
  go_wp2_with fail
  refine (Add_any bo _ kLink x.target _ _ _ _ G.out (Nat.le_trans (rl2_len x) (by omega))).mono ?_
  rintro e w2 ⟨rfl, v2, g⟩
  rw [recIf_text _ _ 100 100 rfl] at g
  have G2 : Hid (RecG tRecE tRecs wm w2 bo #[v2] v2 (rl3 x)) := Lib.hid (by exact g)
  clear g G h0 h1 h2 h3 h4 h5 h6 h7 h8 h9 h10 m0 m1 m2 m3 m4 m5 m6
  obtain ⟨v, rfl⟩ : ∃ V : Value, V = v2 := ⟨_, rfl⟩
  obtain ⟨w1, rfl⟩ : ∃ W : World, W = w2 := ⟨_, rfl⟩
  have G := G2
  clear G2
  obtain ⟨h0, h1, h2, h3, h4, h5, h6, h7, h8, h9, h10⟩ := (G.out.ent HE.out hxo).zero
  obtain ⟨m0, m1, m2, m3, m4, m5, m6⟩ := G.out.met HMT.out hmo
  go_upto_region 12 with fail
  go_cut [75] from 60 to 75 (fun u wy => Hid (∃ v, RecG tRecE tRecs wm wy bo #[v] v (rl4 x)))
  case first =>
    by_cases t1 : 0 < x.mt.nano
    · have HT := Lib.hid (recTime_yes (m := x.mt) (.inl t1))
      have d1 : (x.mt.nano != 0) = true := by rw [bne_iff_ne]; omega
      clear t1
      clear hsec hnan
      go_wp2_with fail
      refine (Add_any bo true kMtime _ _ _ _ _ G.out (Nat.le_trans (rl3_len x) (by omega))).mono ?_
      rintro e w2 ⟨rfl, v2, g⟩
      have HS : Hid (∃ v, RecG tRecE tRecs wm w2 bo #[v] v (rl4 x)) := Lib.hid ⟨v2, by unfold rl4; rw [HT.out.1]; exact g⟩
      clear g
      go_wp2
      go_meet
      exact HS
    · have d1 : (x.mt.nano != 0) = false := by have : x.mt.nano = 0 := by omega
                                               rw [this]; rfl
      by_cases t2 : x.mt.second < 0
      · have HT := Lib.hid (recTime_yes (m := x.mt) (.inr (.inl t2)))
        have d2 : decide (x.mt.second < 0) = true := decide_eq_true t2
        clear t1 t2
        clear hsec hnan
        go_wp2_with fail
        refine (Add_any bo true kMtime _ _ _ _ _ G.out (Nat.le_trans (rl3_len x) (by omega))).mono ?_
        rintro e w2 ⟨rfl, v2, g⟩
        have HS : Hid (∃ v, RecG tRecE tRecs wm w2 bo #[v] v (rl4 x)) := Lib.hid ⟨v2, by unfold rl4; rw [HT.out.1]; exact g⟩
        clear g
        go_wp2
        go_meet
        exact HS
      · have d2 : decide (x.mt.second < 0) = false := decide_eq_false t2
        by_cases t3 : 8589934591 < x.mt.second
        · have HT := Lib.hid (recTime_yes (m := x.mt) (.inr (.inr t3)))
          have d3 : decide (8589934592 ≤ x.mt.second) = true := decide_eq_true (by omega)
          clear t1 t2 t3
          clear hsec hnan
          go_wp2_with fail
          refine (Add_any bo true kMtime _ _ _ _ _ G.out (Nat.le_trans (rl3_len x) (by omega))).mono ?_
          rintro e w2 ⟨rfl, v2, g⟩
          have HS : Hid (∃ v, RecG tRecE tRecs wm w2 bo #[v] v (rl4 x)) := Lib.hid ⟨v2, by unfold rl4; rw [HT.out.1]; exact g⟩
          clear g
          go_wp2
          go_meet
          exact HS
        · have HT := Lib.hid (recTime_no (m := x.mt) (fun h => by rcases h with h | h | h <;> omega))
          have d3 : decide (8589934592 ≤ x.mt.second) = false := decide_eq_false (by omega)
          clear t1 t2 t3
          clear hsec hnan
          go_wp2_with fail
          refine (Add_any bo false kMtime _ _ _ _ _ G.out (Nat.le_trans (rl3_len x) (by omega))).mono ?_
          rintro e w2 ⟨rfl, v2, g⟩
          have HS : Hid (∃ v, RecG tRecE tRecs wm w2 bo #[v] v (rl4 x)) := Lib.hid ⟨v2, by unfold rl4; rw [HT.out.1]; exact g⟩
          clear g
          go_wp2
          go_meet
          exact HS
  case rest =>
  have HS := hcut
  obtain ⟨v2, g⟩ := HS.out
  clear HS hcut
  obtain ⟨w2, rfl⟩ : ∃ W : World, W = wc := ⟨_, rfl⟩
  have G2 : Hid (RecG tRecE tRecs wm w2 bo #[v2] v2 (rl4 x)) := Lib.hid (by exact g)
  clear g G h0 h1 h2 h3 h4 h5 h6 h7 h8 h9 h10 m0 m1 m2 m3 m4 m5 m6
  obtain ⟨v, rfl⟩ : ∃ V : Value, V = v2 := ⟨_, rfl⟩
  obtain ⟨w1, rfl⟩ : ∃ W : World, W = w2 := ⟨_, rfl⟩
  have G := G2
  clear G2
  obtain ⟨h0, h1, h2, h3, h4, h5, h6, h7, h8, h9, h10⟩ := (G.out.ent HE.out hxo).zero
  obtain ⟨m0, m1, m2, m3, m4, m5, m6⟩ := G.out.met HMT.out hmo
  go_wp2_with fail
  refine (Add_any bo _ kPath x.path _ _ _ _ G.out (Nat.le_trans (rl4_len x) (by omega))).mono ?_
  rintro e w2 ⟨rfl, v2, g⟩
  rw [recIf_path] at g
  have G2 : Hid (RecG tRecE tRecs wm w2 bo #[v2] v2 (rl5 x)) := Lib.hid (by exact g)
  clear g G h0 h1 h2 h3 h4 h5 h6 h7 h8 h9 h10 m0 m1 m2 m3 m4 m5 m6
  obtain ⟨v, rfl⟩ : ∃ V : Value, V = v2 := ⟨_, rfl⟩
  obtain ⟨w1, rfl⟩ : ∃ W : World, W = w2 := ⟨_, rfl⟩
  have G := G2
  clear G2
  obtain ⟨h0, h1, h2, h3, h4, h5, h6, h7, h8, h9, h10⟩ := (G.out.ent HE.out hxo).zero
  obtain ⟨m0, m1, m2, m3, m4, m5, m6⟩ := G.out.met HMT.out hmo
  go_upto_region 14 with fail
  have hdr : RecG tRecE tRecs wm w1.drew bo #[v] v (rl5 x) := G.out.below ((Below.refl _ _).drew)
  have HITO := Lib.hid (fun W (hW : RecG tRecE tRecs wm W bo #[v] v (rl5 x)) => show Calls Tryz.prog 104 #[.int .i64 x.mt.uid] W (fun e w' => e = .returned (.string (itoaB x.mt.uid)) ∧ w'.cell? ⟨bm, 1, none⟩ = some (.int .i64 x.mt.uid) ∧ RecG tRecE tRecs wm w' bo #[v] v (rl5 x)) from
    (Itoa_any x.mt.uid W (by unfold i64; omega) (HTW.out.below (hW.bel HBM.out HLOW.out))).mono fun e w' hh => by
      have g := hW.below hh.2
      exact ⟨hh.1, (g.met HMT.out hmo).2.1, g⟩)
  have HADD := Lib.hid (fun W (hW : RecG tRecE tRecs wm W bo #[v] v (rl5 x)) => show Calls Tryz.prog 102 #[.bool (decide (2097152 ≤ x.mt.uid)), .string kUid, .string (itoaB x.mt.uid), .pointer (some ⟨bo, 0, none⟩)] W (fun e w' => e = .returned (.tuple #[]) ∧ w'.cell? ⟨bm, 1, none⟩ = some (.int .i64 x.mt.uid) ∧ Hid (∃ v, RecG tRecE tRecs wm w' bo #[v] v (rl6 x))) from
    (Add_any bo _ kUid _ _ W _ _ hW (Nat.le_trans (rl5_len x) (by omega))).mono fun e w' hh => by
      obtain ⟨he, v', g⟩ := hh
      refine ⟨he, (g.met HMT.out hmo).2.1, Lib.hid ⟨v', ?_⟩⟩
      rw [recIf_num] at g
      exact g)
  go_upto_region 14 with fail
  go_cut [89] from 82 to 89 (fun u wy => Hid (∃ v, RecG tRecE tRecs wm wy bo #[v] v (rl6 x)))
  case first =>
    go_region_held3 (fun w' => w'.cell? ⟨bm, 1, none⟩ = some (.int .i64 x.mt.uid)) (go_keep)
      (first
        | (go_at_call 104; refine (HITO.out _ ?_).mono ?_; assumption; rintro e w3 ⟨rfl, r0, hg3⟩)
        | (go_at_call 102; refine (HADD.out _ ?_).mono ?_; assumption; rintro e w3 ⟨rfl, r0, hg4⟩))
    go_wp2_with fail
    go_meet
    case rel => exact hg4
  case rest =>
  have HS := hcut
  obtain ⟨v2, g⟩ := HS.out
  clear HITO HADD hdr HS hcut
  obtain ⟨w2, rfl⟩ : ∃ W : World, W = wc := ⟨_, rfl⟩
  have G2 : Hid (RecG tRecE tRecs wm w2 bo #[v2] v2 (rl6 x)) := Lib.hid (by exact g)
  clear g G h0 h1 h2 h3 h4 h5 h6 h7 h8 h9 h10 m0 m1 m2 m3 m4 m5 m6
  obtain ⟨v, rfl⟩ : ∃ V : Value, V = v2 := ⟨_, rfl⟩
  obtain ⟨w1, rfl⟩ : ∃ W : World, W = w2 := ⟨_, rfl⟩
  have G := G2
  clear G2
  obtain ⟨h0, h1, h2, h3, h4, h5, h6, h7, h8, h9, h10⟩ := (G.out.ent HE.out hxo).zero
  obtain ⟨m0, m1, m2, m3, m4, m5, m6⟩ := G.out.met HMT.out hmo
  go_wp2_with fail
  refine (Add_any bo _ kUname x.mt.user _ _ _ _ G.out (Nat.le_trans (rl6_len x) (by omega))).mono ?_
  rintro e w2 ⟨rfl, v2, g⟩
  rw [recIf_text _ _ 31 31 rfl] at g
  have G2 : Hid (RecG tRecE tRecs wm w2 bo #[v2] v2 (rl7 x)) := Lib.hid (by exact g)
  clear g G h0 h1 h2 h3 h4 h5 h6 h7 h8 h9 h10 m0 m1 m2 m3 m4 m5 m6
  obtain ⟨v, rfl⟩ : ∃ V : Value, V = v2 := ⟨_, rfl⟩
  obtain ⟨w1, rfl⟩ : ∃ W : World, W = w2 := ⟨_, rfl⟩
  have G := G2
  clear G2
  obtain ⟨h0, h1, h2, h3, h4, h5, h6, h7, h8, h9, h10⟩ := (G.out.ent HE.out hxo).zero
  obtain ⟨m0, m1, m2, m3, m4, m5, m6⟩ := G.out.met HMT.out hmo
  have c0 : w1.cell? ⟨bo, 0, none⟩ = some v := G.out.cell 0
  have HBW := Lib.hid (G.out.bel HBM.out HLOW.out)
  have HOW := Lib.hid (OwnRecs.mono (G.out.own) HBM.out.size)
  go_wp2
  go_ret2
  exact ⟨v, rfl, HOW.out, HBW.out⟩
set_option maxRecDepth 100000 in
set_option maxHeartbeats 1000000 in
theorem MemRecs_any (x : Ent) (w : World) (hx : x.Ok maxLen w) (hT : Pow10 w) :
    Calls Tryz.prog 42 #[x.val] w (RetRecs tRecE w (recordsOf x)) := by
  by_cases hE : entFault x = 0
  · rw [recordsOf_ok hE]
    exact MemRecs_ok x w hx hE hT
  · rw [recordsOf_bad hE]
    have HBX := Lib.hid ((Below.refl w.heap.size w).alloc (Nat.le_refl _) (.cells #[.string x.path, .int .i64 x.kind, .string x.target, .int .i64 x.mt.mode, .int .i64 x.mt.uid, .int .i64 x.mt.gid, .string x.mt.user, .string x.mt.group, .int .i64 x.mt.second, .int .i64 x.mt.nano, .slice x.da x.data.length x.dcap] 26))
    have HPR := Lib.hid (fun W => EntryFault_any x W hx.path hx.target hx.mt (by obtain ⟨_, _, _, _, _, h, _⟩ := hx.data; exact h) hx.kind (Nat.le_refl _))
    generalize entFault x = q at *
    have hq : (q != 0) = true := by rw [bne_iff_ne]; exact hE
    clear hx hE hT
    go_enter Tryz.func42, Tryz.ntmps42
    go_wp2_with fail
    refine (HPR.out _).mono ?_
    rintro e w1 ⟨rfl, hb⟩
    have HB1 := Lib.hid (HBX.out.trans (hb.mono HBX.out.size))
    clear hb
    go_wp2
    go_ret2
    exact ⟨_, rfl, OwnRecs.nil _ _ _, HB1.out⟩
end Go.Proofs.YtaffgndickdbiaaGreatDoor
