/-
  Texts: OctalMost, Pack, EntRight, EntFault, PathFns, PathCmp.
-/
import Derived.Test.YtaffgndickdbiaaGreatDoorU05
import Derived.Lib.LastIndexByte
set_option linter.unusedVariables false
set_option linter.unusedSimpArgs false
set_option linter.unusedSectionVars false
namespace Go.Creel
def octMost (width : Int) : Int × Int := if 2 ≤ width ∧ width ≤ 12 then (8 ^ (width - 1).toNat - 1, 0) else (0, 4)
theorem octMost_in {W : Nat} (h1 : 2 ≤ W) (h2 : W ≤ 12) : octMost (W : Int) = (((8 ^ (W - 1) : Nat) : Int) - 1, 0) := by
  have : ((W : Int) - 1).toNat = W - 1 := by omega
  simp only [octMost, this]; rw [if_pos (by omega)]; simp
theorem eleven {n : Int} (h1 : 2 ≤ n) (h2 : n ≤ 12) : n = 2 ∨ n = 3 ∨ n = 4 ∨ n = 5 ∨ n = 6 ∨ n = 7 ∨ n = 8 ∨ n = 9 ∨ n = 10 ∨ n = 11 ∨ n = 12 := by omega
end Go.Creel
namespace Go.Proofs.YtaffgndickdbiaaGreatDoor
open Go.Creel Go.RowKit
set_option maxRecDepth 100000 in
set_option maxHeartbeats 800000 in
theorem OctalMost_any (n : Int) (w : World) :
    Calls Tryz.prog 158 #[.int .i64 n] w fun e w' => e = .returned (.tuple #[.int .i64 (octMost n).1, .int .i64 (octMost n).2]) ∧ w = w' := by
  by_cases h : 2 ≤ n ∧ n ≤ 12
  · obtain ⟨h1, h2⟩ := h
    obtain ⟨m, rfl⟩ : ∃ m : Nat, n = (m : Int) := ⟨n.toNat, by omega⟩
    obtain ⟨k, rfl⟩ : ∃ k : Nat, m = k + 1 := ⟨m - 1, by omega⟩
    have HF := Lib.hid (show octMost ((k + 1 : Nat) : Int) = (((8 ^ k : Nat) : Int) - 1, 0) by
      have : (((k + 1 : Nat) : Int) - 1).toNat = k := by omega
      simp only [octMost, this]; rw [if_pos ⟨h1, h2⟩]; simp)
    have hb : 8 ^ k ≤ 8 ^ 11 := Nat.pow_le_pow_right (by decide) (by omega)
    have hb2 : 0 < 8 ^ k := Nat.pow_pos (by decide)
    go_enter Tryz.func158, Tryz.ntmps158
    go_wp2_with fail
    refine (power_any k _ (by omega)).mono ?_
    rintro e w' ⟨rfl, rfl⟩
    generalize 8 ^ k = p at *
    have hb3 : p ≤ 8589934592 := by simpa using hb
    clear hb
    go_wp2
    go_ret2
    exact ⟨ret_ii HF.out, rfl⟩
  · have HF := Lib.hid (show octMost n = (0, 4) by simp only [octMost]; rw [if_neg h])
    by_cases h1 : n < 2
    · have hd : decide (n < 2) = true := by simpa using h1
      go_enter Tryz.func158, Tryz.ntmps158
      go_wp2
      go_ret2
      exact ⟨ret_ii HF.out, rfl⟩
    · have h2 : 12 < n := by omega
      go_enter Tryz.func158, Tryz.ntmps158
      go_wp2
      go_ret2
      exact ⟨ret_ii HF.out, rfl⟩
set_option maxRecDepth 100000 in
set_option maxHeartbeats 2000000 in
theorem Most_any (n : Int) (w : World) :
    Calls Tryz.prog 87 #[.int .i64 n] w fun e w' => e = .returned (.tuple #[.int .i64 (octMost n).1, .int .i64 (octMost n).2]) ∧ w = w' := by
  by_cases h : 2 ≤ n ∧ n ≤ 12
  · obtain ⟨h1, h2⟩ := h
    rcases eleven h1 h2 with rfl | rfl | rfl | rfl | rfl | rfl | rfl | rfl | rfl | rfl | rfl
    all_goals
      clear h1 h2
      go_enter Tryz.func87, Tryz.ntmps87
      go_wp2
      go_ret2
      exact ⟨rfl, rfl⟩
  · have HF := Lib.hid (show octMost n = (0, 4) by simp only [octMost]; rw [if_neg h])
    by_cases h1 : n < 2
    · have hd : decide (n < 2) = true := by simpa using h1
      go_enter Tryz.func87, Tryz.ntmps87
      go_wp2
      go_ret2
      exact ⟨ret_ii HF.out, rfl⟩
    · have h2 : 12 < n := by omega
      go_enter Tryz.func87, Tryz.ntmps87
      go_wp2
      go_ret2
      exact ⟨ret_ii HF.out, rfl⟩
end Go.Proofs.YtaffgndickdbiaaGreatDoor
namespace Go.Creel
abbrev pcells (h : HeadN) (v : Value) : Array Value := #[.string h.nm, .string h.px, .string h.lk, .int .i64 h.mode, .int .i64 h.uid, .int .i64 h.gid, .int .i64 h.size, .int .i64 h.time, .int .u8 h.typ.toNat, .string h.user, .string h.group, v]
end Go.Creel
namespace Go.Proofs.YtaffgndickdbiaaGreatDoor
open Go.Creel Go.RowKit
abbrev tRecE : TypeId := 85
abbrev tPk : TypeId := 65
set_option maxRecDepth 100000 in
set_option maxHeartbeats 2000000 in
theorem Say_any (b : Nat) (key value : ByteArray) (w0 w : World) (h : HeadN) (v : Value) (l : List Rec) (s : RecSt tRecE tPk w0 w b (pcells h v) v l) (hl : l.length ≤ 100) :
    Calls Tryz.prog 89 #[.pointer (some ⟨b, 0, none⟩), .string key, .string value] w fun e w' => e = .returned (.tuple #[]) ∧ ∃ v', RecSt tRecE tPk w0 w' b (pcells h v') v' (l ++ [⟨key, value⟩]) := by
  obtain ⟨i0, hi, hz0, hz1, hz2⟩ := info_parts info_record
  have HI := Lib.hid (And.intro hi (And.intro hz0 (And.intro hz1 hz2)))
  have H := Lib.hid s
  have HBA := Lib.hid ((Below.refl w.heap.size w).alloc (Nat.le_refl _) (.cells #[.string key, .string value] 85))
  have H3 := Lib.hid (H.out.below HBA.out)
  have c11 : w.cell? ⟨b, 11, none⟩ = some v := H.out.cell 11
  have hlt := s.lt
  clear hi hz0 hz1 hz2 s
  go_enter Tryz.func89, Tryz.ntmps89
  go_wp2_with (at_builtin; refine wpList_app _ rfl (.tmp 10) (.tmp 14) 63 63 rfl _ _ rfl rfl (fun ty => app_src _ 63 63 ty (b + 1) 85 i0 _ 2 32 Tryz.underlying63 HI.out.1 HI.out.2.1 HI.out.2.2.1 HI.out.2.2.2 rfl (by decide) _ _ l.length 1 _ _ H3.out.own (src_rec w _ _ _ Tryz.underlying63 ⟨key, value⟩) (by unfold maxLen; omega) (by omega) H3.out.lt) ?_; intro v4 w4 ho2 hg2 hv2; have HZ := Lib.hid (And.intro ho2 (And.intro hg2 hv2.2)); have e1 : w4.cell? ⟨b, 11, none⟩ = some v := H3.out.cell4 hg2 11; have e2 := H3.out.free4 hg2 11; obtain ⟨g4, cp4, rfl⟩ := ownsRow_form2 ho2; clear ho2 hg2 hv2)
  go_end0
  exact ⟨rfl, _, H3.out.say (r := ⟨key, value⟩) 11 HZ.out.1 HZ.out.2.1 rfl⟩
set_option maxRecDepth 100000 in
set_option maxHeartbeats 1000000 in
theorem Number_any (b : Nat) (key : ByteArray) (n : Int) (w0 w : World) (h : HeadN) (v : Value) (l : List Rec) (s : RecSt tRecE tPk w0 w b (pcells h v) v l) (hl : l.length ≤ 99) (hn : 0 ≤ n ∧ n ≤ 1125899906842624) (hT : Pow10 w) :
    Calls Tryz.prog 85 #[.pointer (some ⟨b, 0, none⟩), .string key, .int .i64 n, .int .i64 8] w fun e w' => e = .returned (.int .i64 (hidNum n 2097151)) ∧ ∃ v', RecSt tRecE tPk w0 w' b (pcells h v') v' (l ++ recNum key n 2097151) := by
  have H := Lib.hid s
  have HT := Lib.hid hT
  have HMO := Lib.hid (Most_any 8 w)
  rw [show octMost 8 = (2097151, 0) by rfl] at HMO
  simp only at HMO
  have h0 : ¬ n < 0 := by omega
  clear s hT
  by_cases hb : 2097151 < n
  · have HF := Lib.hid (recNum_yes (k := key) hb)
    go_enter Tryz.func85, Tryz.ntmps85
    go_wp2_with fail
    refine HMO.out.mono ?_
    rintro e w' ⟨rfl, rfl⟩
    go_wp2_with fail
    refine (Itoa_any n _ (by unfold i64; omega) HT.out).mono ?_
    rintro e w2 ⟨rfl, hb2⟩
    have H2 := Lib.hid (H.out.below hb2)
    clear hb2
    go_wp2_with fail
    refine (Say_any b key _ w0 _ h v l H2.out (by omega)).mono ?_
    rintro e w3 ⟨rfl, v3, s3⟩
    have H3 := Lib.hid s3
    clear s3
    go_wp2
    go_ret
    rw [HF.out.1, HF.out.2]
    exact ⟨rfl, _, H3.out⟩
  · have HF := Lib.hid (recNum_no (k := key) hb)
    go_enter Tryz.func85, Tryz.ntmps85
    go_wp2_with fail
    refine HMO.out.mono ?_
    rintro e w' ⟨rfl, rfl⟩
    go_wp2
    go_ret
    rw [HF.out.1, HF.out.2, List.append_nil]
    exact ⟨rfl, _, H.out⟩
set_option maxRecDepth 100000 in
set_option maxHeartbeats 1000000 in
theorem Text_any (b : Nat) (key t i : ByteArray) (m : Nat) (M : Int) (w0 w : World) (h : HeadN) (v : Value) (l : List Rec) (s : RecSt tRecE tPk w0 w b (pcells h v) v l) (hl : l.length ≤ 99) (hM : M = m) (hm : m ≤ 1000) (ht : t.size ≤ 1000) :
    Calls Tryz.prog 86 #[.pointer (some ⟨b, 0, none⟩), .string key, .string t, .int .i64 M, .string i] w fun e w' => e = .returned (.string (hidText t m i)) ∧ ∃ v', RecSt tRecE tPk w0 w' b (pcells h v') v' (l ++ recText1 key t m) := by
  have H := Lib.hid s
  clear s
  by_cases hb : m < t.size
  · have HF := Lib.hid (recText1_yes (k := key) (i := i) hb)
    have hd : M < (t.size : Int) := by omega
    clear hb
    go_enter Tryz.func86, Tryz.ntmps86
    go_wp2_with fail
    refine (Say_any b key _ w0 _ h v l H.out (by omega)).mono ?_
    rintro e w3 ⟨rfl, v3, s3⟩
    have H3 := Lib.hid s3
    clear s3
    go_wp2
    go_ret
    rw [HF.out.1, HF.out.2]
    exact ⟨rfl, _, H3.out⟩
  · have HF := Lib.hid (recText1_no (k := key) (i := i) hb)
    have hd : ¬ M < (t.size : Int) := by omega
    clear hb
    go_enter Tryz.func86, Tryz.ntmps86
    go_wp2
    go_ret
    rw [HF.out.1, HF.out.2, List.append_nil]
    exact ⟨rfl, _, H.out⟩
open Go.Creel Go.RowKit
set_option maxRecDepth 100000 in
set_option maxHeartbeats 40000000 in
theorem PlanRight_any {N : Nat} (x : Ent) (w : World) (hM : MaxOk w) (hp : x.path.size ≤ N) (ht : x.target.size ≤ N) (hm : x.mt.Ok N) (hd : x.data.length ≤ maxLen) (hk : i64 x.kind) (hN : N ≤ maxLen) :
    Calls Tryz.prog 36 #[x.val] w fun e w' => e = .returned (.int .i64 (entFault x)) ∧ Below w.heap.size w w' := by
  obtain ⟨path, kind, target, ⟨mode, uid, gid, user, group, second, nano⟩, da, dcap, data⟩ := x
  unfold maxLen at hd
  have HPZ := Lib.hid (Nat.le_trans hp hN)
  have HTZ := Lib.hid (Nat.le_trans ht hN)
  have htz := Nat.le_trans ht hN
  unfold maxLen at htz
  have HMO := Lib.hid hm
  have HM := Lib.hid hM
  have hk2 := hk
  unfold i64 at hk2
  have hix := idx_has target 0
  have HF : Hid (∀ c, entFaultN (pathFault path) (metaFault ⟨mode, uid, gid, user, group, second, nano⟩) kind data.length target.size (pathFault target) (hasB target 0) = c → entFault ⟨path, kind, target, ⟨mode, uid, gid, user, group, second, nano⟩, da, dcap, data⟩ = c) := Lib.hid fun c h => h
  generalize hR : entFault _ = R at *
  clear hp ht hm hM hk hR
  have hix0 : Hid (hasB target 0 = true ∨ hasB target 0 = false) := Lib.hid (by cases hasB target 0 <;> simp)
  show Calls Tryz.prog 36 #[.agg #[.string path, .int .i64 kind, .string target, .int .i64 mode, .int .i64 uid, .int .i64 gid, .string user, .string group, .int .i64 second, .int .i64 nano, .slice da data.length dcap]] w _
  go_enter Tryz.func36, Tryz.ntmps36
  go_wp2_with fail
  refine (PathCheck_any path _ (HM.out.below ((Below.refl _ _).alloc (Nat.le_refl _) _)) HPZ.out).mono ?_
  rintro e w1 ⟨rfl, hb⟩
  have HB1 := Lib.hid (((Below.refl _ _).alloc (Nat.le_refl _) _).trans (hb.mono (by simp)))
  obtain ⟨hc1, _⟩ := bcell hb
  have HB := Lib.hid hb
  clear hb
  by_cases hp0 : pathFault path = 0
  · rw [hp0]
    have HP0 := Lib.hid hp0
    clear hp0
    go_wp2_with fail
    refine (MetaCheck_any ⟨mode, uid, gid, user, group, second, nano⟩ _ HMO.out hN).mono ?_
    rintro e w2 ⟨rfl, hb⟩
    have HB2 := Lib.hid (HB1.out.trans (hb.mono HB1.out.size))
    have hb2 := HB.out.trans (hb.mono HB.out.size)
    obtain ⟨hc2, _⟩ := bcell hb2
    have HBB2 := Lib.hid hb2
    clear hb hb2 hc1
    by_cases hm0 : metaFault ⟨mode, uid, gid, user, group, second, nano⟩ = 0
    · rw [hm0]
      have HM0 := Lib.hid hm0
      clear hm0
      have HTC := Lib.hid (PathCheck_any target w2 (HM.out.below HB2.out) HTZ.out)
      rw [HP0.out, HM0.out] at HF
      by_cases ht0 : target.size = 0
      · have he := empty_t ht0
        rcases hix0.out with hh | hh
        all_goals
          rw [hh] at hix HF
          generalize pathFault target = q at *
          go_wp2_with (first | (go_at_call 84; refine (IndexByte_any _ _ _).mono ?_; rintro e w' ⟨rfl, rfl⟩) | (go_at_call 82; refine HTC.out.mono ?_; rintro e w3 ⟨rfl, hb3⟩; replace hb3 := Lib.hid hb3))
          all_goals
            first
              | (exfalso; (try simp only [← List.length_eq_zero_iff, beq_iff_eq, beq_eq_false_iff_ne, bne_iff_ne, bne_eq_false_iff_eq, ne_eq, Bool.not_eq_true', Bool.not_eq_false', decide_eq_true_eq, decide_eq_false_iff_not] at *); omega)
              | (go_ret; exact ⟨ret_i (HF.out _ (by (try simp only [← List.length_eq_zero_iff, beq_iff_eq, beq_eq_false_iff_ne, bne_iff_ne, bne_eq_false_iff_eq, ne_eq, Bool.not_eq_true', Bool.not_eq_false', decide_eq_true_eq, decide_eq_false_iff_not] at *); unfold entFaultN; repeat (first | rw [if_pos (by omega)] | rw [if_neg (by omega)] | rw [if_pos rfl] | rw [if_neg (by decide)]))), HB2.out⟩)
              | (go_ret; exact ⟨ret_i (HF.out _ (by (try simp only [← List.length_eq_zero_iff, beq_iff_eq, beq_eq_false_iff_ne, bne_iff_ne, bne_eq_false_iff_eq, ne_eq, Bool.not_eq_true', Bool.not_eq_false', decide_eq_true_eq, decide_eq_false_iff_not] at *); unfold entFaultN; repeat (first | rw [if_pos (by omega)] | rw [if_neg (by omega)] | rw [if_pos rfl] | rw [if_neg (by decide)]))), HB2.out.trans (hb3.out.mono HB2.out.size)⟩)
      · have he := empty_f ht0
        rcases hix0.out with hh | hh
        all_goals
          rw [hh] at hix HF
          generalize pathFault target = q at *
          go_wp2_with (first | (go_at_call 84; refine (IndexByte_any _ _ _).mono ?_; rintro e w' ⟨rfl, rfl⟩) | (go_at_call 82; refine HTC.out.mono ?_; rintro e w3 ⟨rfl, hb3⟩; replace hb3 := Lib.hid hb3))
          all_goals
            first
              | (exfalso; (try simp only [← List.length_eq_zero_iff, beq_iff_eq, beq_eq_false_iff_ne, bne_iff_ne, bne_eq_false_iff_eq, ne_eq, Bool.not_eq_true', Bool.not_eq_false', decide_eq_true_eq, decide_eq_false_iff_not] at *); omega)
              | (go_ret; exact ⟨ret_i (HF.out _ (by (try simp only [← List.length_eq_zero_iff, beq_iff_eq, beq_eq_false_iff_ne, bne_iff_ne, bne_eq_false_iff_eq, ne_eq, Bool.not_eq_true', Bool.not_eq_false', decide_eq_true_eq, decide_eq_false_iff_not] at *); unfold entFaultN; repeat (first | rw [if_pos (by omega)] | rw [if_neg (by omega)] | rw [if_pos rfl] | rw [if_neg (by decide)]))), HB2.out⟩)
              | (go_ret; exact ⟨ret_i (HF.out _ (by (try simp only [← List.length_eq_zero_iff, beq_iff_eq, beq_eq_false_iff_ne, bne_iff_ne, bne_eq_false_iff_eq, ne_eq, Bool.not_eq_true', Bool.not_eq_false', decide_eq_true_eq, decide_eq_false_iff_not] at *); unfold entFaultN; repeat (first | rw [if_pos (by omega)] | rw [if_neg (by omega)] | rw [if_pos rfl] | rw [if_neg (by decide)]))), HB2.out.trans (hb3.out.mono HB2.out.size)⟩)
    · have HRR := Lib.hid (HF.out _ (show _ = metaFault ⟨mode, uid, gid, user, group, second, nano⟩ by unfold entFaultN; rw [if_neg (by rw [HP0.out]; simp), if_pos hm0]))
      have hne := hm0
      generalize metaFault ⟨mode, uid, gid, user, group, second, nano⟩ = m at *
      go_wp2
      go_ret
      exact ⟨ret_i HRR.out, HB2.out⟩
  · have HRR := Lib.hid (HF.out _ (show _ = pathFault path by unfold entFaultN; rw [if_pos hp0]))
    have hne := hp0
    generalize pathFault path = p at *
    go_wp2
    go_ret
    exact ⟨ret_i HRR.out, HB1.out⟩
open Go.Creel Go.RowKit
set_option maxRecDepth 100000 in
set_option maxHeartbeats 40000000 in
theorem EntryFault_any {N : Nat} (x : Ent) (w : World) (hp : x.path.size ≤ N) (ht : x.target.size ≤ N) (hm : x.mt.Ok N) (hd : x.data.length ≤ maxLen) (hk : i64 x.kind) (hN : N ≤ maxLen) :
    Calls Tryz.prog 101 #[x.val] w fun e w' => e = .returned (.int .i64 (entFault x)) ∧ Below w.heap.size w w' := by
  obtain ⟨path, kind, target, ⟨mode, uid, gid, user, group, second, nano⟩, da, dcap, data⟩ := x
  unfold maxLen at hd
  have HPZ := Lib.hid (Nat.le_trans hp hN)
  have HTZ := Lib.hid (Nat.le_trans ht hN)
  have htz := Nat.le_trans ht hN
  unfold maxLen at htz
  have HMO := Lib.hid hm
  have hk2 := hk
  unfold i64 at hk2
  have HF : Hid (∀ c, entFaultN (pathFault path) (metaFault ⟨mode, uid, gid, user, group, second, nano⟩) kind data.length target.size (pathFault target) (hasB target 0) = c → entFault ⟨path, kind, target, ⟨mode, uid, gid, user, group, second, nano⟩, da, dcap, data⟩ = c) := Lib.hid fun c h => h
  generalize hR : entFault _ = R at *
  clear hp ht hm hk hR
  have hix0 : Hid (hasB target 0 = true ∨ hasB target 0 = false) := Lib.hid (by cases hasB target 0 <;> simp)
  show Calls Tryz.prog 101 #[.agg #[.string path, .int .i64 kind, .string target, .int .i64 mode, .int .i64 uid, .int .i64 gid, .string user, .string group, .int .i64 second, .int .i64 nano, .slice da data.length dcap]] w _
  go_enter Tryz.func101, Tryz.ntmps101
  go_wp2_with fail
  refine (PathFault_any path _ HPZ.out).mono ?_
  rintro e w1 ⟨rfl, hb⟩
  have HB1 := Lib.hid (((Below.refl _ _).alloc (Nat.le_refl _) _).trans (hb.mono (by simp)))
  obtain ⟨hc1, _⟩ := bcell hb
  have HB := Lib.hid hb
  clear hb
  by_cases hp0 : pathFault path = 0
  · rw [hp0]
    have HP0 := Lib.hid hp0
    clear hp0
    go_wp2_with fail
    refine (MetaFault_any ⟨mode, uid, gid, user, group, second, nano⟩ _ HMO.out hN).mono ?_
    rintro e w2 ⟨rfl, hb⟩
    have HB2 := Lib.hid (HB1.out.trans (hb.mono HB1.out.size))
    have hb2 := HB.out.trans (hb.mono HB.out.size)
    obtain ⟨hc2, _⟩ := bcell hb2
    have HBB2 := Lib.hid hb2
    clear hb hb2 hc1
    by_cases hm0 : metaFault ⟨mode, uid, gid, user, group, second, nano⟩ = 0
    · rw [hm0]
      have HM0 := Lib.hid hm0
      clear hm0
      have HTC := Lib.hid (PathFault_any target w2 HTZ.out)
      rw [HP0.out, HM0.out] at HF
      by_cases ht0 : target.size = 0
      · have he := empty_t ht0
        rcases hix0.out with hh | hh
        all_goals
          rw [hh] at HF
          have HH := Lib.hid hh
          clear hh
          generalize pathFault target = q at *
          go_wp2_with (first | (go_at_call 105; refine (has_any target 0 0 rfl _ HTZ.out).mono ?_; rintro e w' ⟨rfl, rfl⟩; rw [HH.out]) | (go_at_call 154; refine HTC.out.mono ?_; rintro e w3 ⟨rfl, hb3⟩; replace hb3 := Lib.hid hb3))
          all_goals
            first
              | (exfalso; (try simp only [← List.length_eq_zero_iff, beq_iff_eq, beq_eq_false_iff_ne, bne_iff_ne, bne_eq_false_iff_eq, ne_eq] at *); omega)
              | (go_ret; exact ⟨ret_i (HF.out _ (by (try simp only [← List.length_eq_zero_iff, beq_iff_eq, beq_eq_false_iff_ne, bne_iff_ne, bne_eq_false_iff_eq, ne_eq] at *); unfold entFaultN; repeat (first | rw [if_pos (by omega)] | rw [if_neg (by omega)] | rw [if_pos rfl] | rw [if_neg (by decide)]))), HB2.out⟩)
              | (go_ret; exact ⟨ret_i (HF.out _ (by (try simp only [← List.length_eq_zero_iff, beq_iff_eq, beq_eq_false_iff_ne, bne_iff_ne, bne_eq_false_iff_eq, ne_eq] at *); unfold entFaultN; repeat (first | rw [if_pos (by omega)] | rw [if_neg (by omega)] | rw [if_pos rfl] | rw [if_neg (by decide)]))), HB2.out.trans (hb3.out.mono HB2.out.size)⟩)
      · have he := empty_f ht0
        rcases hix0.out with hh | hh
        all_goals
          rw [hh] at HF
          have HH := Lib.hid hh
          clear hh
          generalize pathFault target = q at *
          go_wp2_with (first | (go_at_call 105; refine (has_any target 0 0 rfl _ HTZ.out).mono ?_; rintro e w' ⟨rfl, rfl⟩; rw [HH.out]) | (go_at_call 154; refine HTC.out.mono ?_; rintro e w3 ⟨rfl, hb3⟩; replace hb3 := Lib.hid hb3))
          all_goals
            first
              | (exfalso; (try simp only [← List.length_eq_zero_iff, beq_iff_eq, beq_eq_false_iff_ne, bne_iff_ne, bne_eq_false_iff_eq, ne_eq] at *); omega)
              | (go_ret; exact ⟨ret_i (HF.out _ (by (try simp only [← List.length_eq_zero_iff, beq_iff_eq, beq_eq_false_iff_ne, bne_iff_ne, bne_eq_false_iff_eq, ne_eq] at *); unfold entFaultN; repeat (first | rw [if_pos (by omega)] | rw [if_neg (by omega)] | rw [if_pos rfl] | rw [if_neg (by decide)]))), HB2.out⟩)
              | (go_ret; exact ⟨ret_i (HF.out _ (by (try simp only [← List.length_eq_zero_iff, beq_iff_eq, beq_eq_false_iff_ne, bne_iff_ne, bne_eq_false_iff_eq, ne_eq] at *); unfold entFaultN; repeat (first | rw [if_pos (by omega)] | rw [if_neg (by omega)] | rw [if_pos rfl] | rw [if_neg (by decide)]))), HB2.out.trans (hb3.out.mono HB2.out.size)⟩)
    · have HRR := Lib.hid (HF.out _ (show _ = metaFault ⟨mode, uid, gid, user, group, second, nano⟩ by unfold entFaultN; rw [if_neg (by rw [HP0.out]; simp), if_pos hm0]))
      have hne := hm0
      generalize metaFault ⟨mode, uid, gid, user, group, second, nano⟩ = m at *
      go_wp2
      go_ret
      exact ⟨ret_i HRR.out, HB2.out⟩
  · have HRR := Lib.hid (HF.out _ (show _ = pathFault path by unfold entFaultN; rw [if_pos hp0]))
    have hne := hp0
    generalize pathFault path = p at *
    go_wp2
    go_ret
    exact ⟨ret_i HRR.out, HB1.out⟩
end Go.Proofs.YtaffgndickdbiaaGreatDoor
namespace Go.Creel
open Go.RowKit
def joinL : List (List UInt8) → List UInt8
  | [] => []
  | [h] => h
  | h :: t => h ++ 47 :: joinL t
theorem joinL_cons {h : List UInt8} {t : List (List UInt8)} (ht : t ≠ []) : joinL (h :: t) = h ++ 47 :: joinL t := by
  cases t with
  | nil => exact absurd rfl ht
  | cons a b => rfl
theorem joinL_parts : ∀ l, joinL (partsL 47 l) = l
  | [] => rfl
  | x :: l => by
    have ih := joinL_parts l
    by_cases h : x = 47
    · have : partsL 47 (x :: l) = [] :: partsL 47 l := by
        conv => lhs; unfold partsL
        rw [if_pos h]
      rw [this, joinL_cons (partsL_ne _ _), ih, h]; rfl
    · rw [partsL_cons h]
      cases hp : partsL 47 l with
      | nil => exact absurd hp (partsL_ne _ _)
      | cons a t =>
        rw [hp] at ih
        cases t with
        | nil => simp only [joinL] at ih ⊢; rw [ih]
        | cons b t => simp only [joinL, List.cons_append] at ih ⊢; rw [ih]
theorem joinL_snoc : ∀ (L : List (List UInt8)) (x : List UInt8), joinL (L ++ [x]) = if L = [] then x else joinL L ++ 47 :: x
  | [], x => rfl
  | [a], x => by simp [joinL]
  | a :: b :: t, x => by
    have ih := joinL_snoc (b :: t) x
    rw [if_neg (by simp)] at ih ⊢
    show a ++ 47 :: joinL ((b :: t) ++ [x]) = (a ++ 47 :: joinL (b :: t)) ++ 47 :: x
    rw [ih]; simp
theorem partsL_free {c : UInt8} : ∀ {l : List UInt8}, (∀ x ∈ l, x ≠ c) → partsL c l = [l]
  | [], _ => rfl
  | a :: l, h => by
    rw [partsL_cons (h a (by simp)), partsL_free (fun x hx => h x (by simp [hx]))]
theorem partsL_mid {c : UInt8} {b : List UInt8} (hb : ∀ x ∈ b, x ≠ c) : ∀ a : List UInt8, partsL c (a ++ c :: b) = partsL c a ++ [b]
  | [] => by simp [partsL, partsL_free hb]
  | x :: a => by
    have ih := partsL_mid hb a
    by_cases h : x = c
    · simp only [List.cons_append, partsL, h, if_true]
      rw [ih]
    · rw [List.cons_append, partsL_cons h, partsL_cons h, ih]
      cases hp : partsL c a with
      | nil => exact absurd hp (partsL_ne _ _)
      | cons h t => rfl
def pathUp (s : ByteArray) : ByteArray := ofL (joinL (partsL 47 s.data.toList).dropLast)
def pathBase (s : ByteArray) : ByteArray := ofL ((partsL 47 s.data.toList).getLastD [])
def pathParts (s : ByteArray) : List ByteArray := if s.size = 0 then [] else partsS 47 s
theorem data_at (s : ByteArray) (j : Nat) (h : j < s.size) : (s.data[j]!).toNat = byt s j := by
  rw [getElem!_pos s.data j (by simpa using h)]
  unfold byt
  rw [List.getD_eq_getElem?_getD, List.getElem?_eq_getElem (by simpa using h)]
  simp
theorem last_cases (s : ByteArray) : (Lib.lastIndexByte s 47 = -1 ∧ pathUp s = ByteArray.empty ∧ pathBase s = s) ∨
    ∃ i : Nat, Lib.lastIndexByte s 47 = i ∧ i < s.size ∧ pathUp s = s.extract 0 i ∧ pathBase s = s.extract (i + 1) s.size := by
  have hsz : s.size = s.data.toList.length := Lib.size_eq s
  rcases Lib.lastIndexByte_spec s 47 with ⟨h1, h2⟩ | ⟨i, h1, h2, h3, h4⟩
  · left
    have hf : ∀ x ∈ s.data.toList, x ≠ 47 := by
      intro x hx e
      obtain ⟨k, hk, rfl⟩ := List.getElem_of_mem hx
      have hk' : k < s.size := by omega
      have := h2 k hk'
      rw [data_at s k hk', (get_byt s k hk' 47).1 e] at this
      exact this rfl
    have hp := partsL_free hf
    refine ⟨h1, ?_, ?_⟩
    · unfold pathUp; rw [hp]; rfl
    · unfold pathBase; rw [hp]; exact ofL_of s
  · right
    have hi : byt s i = 47 := by rw [← data_at s i h1]; omega
    have hsplit : s.data.toList = s.data.toList.take i ++ 47 :: s.data.toList.drop (i + 1) := by
      have e := (get_byt s i h1 47).2 hi
      rw [← e, ← List.drop_eq_getElem_cons, List.take_append_drop]
    have hf : ∀ x ∈ s.data.toList.drop (i + 1), x ≠ 47 := by
      intro x hx e
      obtain ⟨k, hk, rfl⟩ := List.getElem_of_mem hx
      rw [List.getElem_drop] at e
      have hk' : i + 1 + k < s.size := by simp at hk; omega
      have := h4 (i + 1 + k) (by omega) hk'
      rw [data_at s _ hk', (get_byt s _ hk' 47).1 e] at this
      exact this rfl
    have hp : partsL 47 s.data.toList = partsL 47 (s.data.toList.take i) ++ [s.data.toList.drop (i + 1)] := by
      conv => lhs; rw [hsplit]
      exact partsL_mid hf _
    refine ⟨i, h2, h1, ?_, ?_⟩
    · unfold pathUp
      rw [hp, List.dropLast_concat, joinL_parts]
      apply ext_bytes
      rw [ofL_data, Lib.extract_data]; simp
    · unfold pathBase
      rw [hp]
      apply ext_bytes
      rw [ofL_data, Lib.extract_data]
      have hd : (s.data.toList.drop (i + 1)).length ≤ s.size - (i + 1) := by rw [List.length_drop]; omega
      rw [List.take_of_length_le hd]
      simp
end Go.Creel
namespace Go.Proofs.YtaffgndickdbiaaGreatDoor
open Go.Creel Go.RowKit
set_option maxRecDepth 100000 in
theorem Up_any (s : ByteArray) (w : World) (hs : s.size ≤ 4000000000) :
    Calls Tryz.prog 114 #[.string s] w fun e w' => e = .returned (.string (pathUp s)) ∧ w = w' := by
  have HL := Lib.hid (fun (w : World) => Tryz.strings_LastIndexByte s 47 (by omega) w)
  rcases last_cases s with ⟨h1, h2, h3⟩ | ⟨i, h1, h2, h3, h4⟩
  · have HF := Lib.hid h2
    have hd : decide (Lib.lastIndexByte s 47 < 0) = true := by rw [h1]; rfl
    clear h1 h2 h3
    go_enter Tryz.func114, Tryz.ntmps114
    go_wp2_with (go_at_call 162; refine (HL.out _).mono ?_; rintro e w' ⟨rfl, rfl⟩)
    go_ret
    exact ⟨ret_s HF.out, rfl⟩
  · have HF := Lib.hid h3
    have HH := Lib.hid h1
    clear h1 h3 h4
    go_enter Tryz.func114, Tryz.ntmps114
    go_wp2_with (go_at_call 162; refine (HL.out _).mono ?_; rintro e w' ⟨rfl, rfl⟩; rw [HH.out])
    go_ret
    exact ⟨ret_s HF.out, rfl⟩
set_option maxRecDepth 100000 in
theorem Parts_any (s : ByteArray) (w : World) (hM : MaxOk w) (hs : s.size ≤ 4000000000) :
    Calls Tryz.prog 161 #[.string s] w (RetSs 9 w (pathParts s)) := by
  by_cases h0 : s.size = 0
  · have HF := Lib.hid (show pathParts s = [] by unfold pathParts; rw [if_pos h0])
    have he := empty_t h0
    clear h0
    go_enter Tryz.func161, Tryz.ntmps161
    go_wp2
    go_ret
    rw [HF.out]
    exact ⟨_, rfl, World.ownsRow_nil w _ _ 1, Below.refl _ _⟩
  · have HF := Lib.hid (show pathParts s = partsS 47 s by unfold pathParts; rw [if_neg h0])
    have he := empty_f h0
    have HM := Lib.hid hM
    clear h0 hM
    go_enter Tryz.func161, Tryz.ntmps161
    go_wp2_with fail
    refine (SplitSlash_any s _ HM.out hs).mono ?_
    rintro e w' ⟨v, rfl, ho, hb⟩
    have HO := Lib.hid ho
    have HB := Lib.hid hb
    clear ho hb
    go_wp2
    go_ret
    rw [HF.out]
    exact ⟨_, rfl, HO.out, HB.out⟩
set_option maxRecDepth 100000 in
theorem PathParts_any (s : ByteArray) (w : World) (hs : s.size ≤ 4000000000) :
    Calls Tryz.prog 163 #[.string s] w (RetSs 9 w (pathParts s)) := by
  by_cases h0 : s.size = 0
  · have HF := Lib.hid (show pathParts s = [] by unfold pathParts; rw [if_pos h0])
    have he := empty_t h0
    clear h0
    go_enter Tryz.func163, Tryz.ntmps163
    go_wp2
    go_ret
    rw [HF.out]
    exact ⟨_, rfl, World.ownsRow_nil w _ _ 1, Below.refl _ _⟩
  · have HF := Lib.hid (show pathParts s = partsS 47 s by unfold pathParts; rw [if_neg h0])
    have he := empty_f h0
    clear h0
    go_enter Tryz.func163, Tryz.ntmps163
    go_wp2_with fail
    refine (parts_any s 47 _ rfl _ hs).mono ?_
    rintro e w' ⟨v, rfl, ho, hb⟩
    have HO := Lib.hid ho
    have HB := Lib.hid hb
    clear ho hb
    go_wp2
    go_ret
    rw [HF.out]
    exact ⟨_, rfl, HO.out, HB.out⟩
end Go.Proofs.YtaffgndickdbiaaGreatDoor
namespace Go.Creel
open Go.RowKit
def cmpS (x y : ByteArray) : Int := if Op.bytesLess x.toList y.toList = true then -1 else if (x.toList == y.toList) = true then 0 else 1
theorem cmpS_cases (x y : ByteArray) : (Op.bytesLess x.toList y.toList = true ∧ cmpS x y = -1) ∨ (Op.bytesLess x.toList y.toList = false ∧ (x.toList == y.toList) = true ∧ cmpS x y = 0) ∨ (Op.bytesLess x.toList y.toList = false ∧ (x.toList == y.toList) = false ∧ cmpS x y = 1) := by
  unfold cmpS
  cases h : Op.bytesLess x.toList y.toList with
  | true => exact .inl ⟨rfl, by simp⟩
  | false =>
    right
    cases h2 : (x.toList == y.toList) with
    | true => exact .inl ⟨rfl, rfl, by simp⟩
    | false => exact .inr ⟨rfl, rfl, by simp⟩
def ordP : List ByteArray → List ByteArray → Int
  | [], [] => 0
  | [], _ :: _ => -1
  | _ :: _, [] => 1
  | x :: xs, y :: ys => if cmpS x y = 0 then ordP xs ys else cmpS x y
theorem ordP_drop {X Y : List ByteArray} : ∀ {k : Nat}, k ≤ X.length → k ≤ Y.length → (∀ j, j < k → cmpS (piece X j) (piece Y j) = 0) → ordP X Y = ordP (X.drop k) (Y.drop k)
  | 0, _, _, _ => by simp
  | k + 1, hx, hy, h => by
    rw [ordP_drop (k := k) (by omega) (by omega) (fun j hj => h j (by omega))]
    rw [List.drop_eq_getElem_cons (show k < X.length by omega), List.drop_eq_getElem_cons (show k < Y.length by omega)]
    have := h k (by omega)
    rw [piece_eq (show k < X.length by omega), piece_eq (show k < Y.length by omega)] at this
    simp only [ordP, this, if_true]
theorem ordP_at {X Y : List ByteArray} {k : Nat} (hx : k < X.length) (hy : k < Y.length) (h : ∀ j, j < k → cmpS (piece X j) (piece Y j) = 0) (hne : cmpS (piece X k) (piece Y k) ≠ 0) : ordP X Y = cmpS (piece X k) (piece Y k) := by
  rw [ordP_drop (Nat.le_of_lt hx) (Nat.le_of_lt hy) h, List.drop_eq_getElem_cons hx, List.drop_eq_getElem_cons hy]
  rw [piece_eq hx, piece_eq hy] at hne ⊢
  simp only [ordP, hne, if_false]
theorem ordP_left {X Y : List ByteArray} (hy : X.length < Y.length) (h : ∀ j, j < X.length → cmpS (piece X j) (piece Y j) = 0) : ordP X Y = -1 := by
  rw [ordP_drop (Nat.le_refl _) (Nat.le_of_lt hy) h, List.drop_eq_getElem_cons hy, List.drop_length]
  rfl
theorem ordP_both {X Y : List ByteArray} (hy : X.length = Y.length) (h : ∀ j, j < X.length → cmpS (piece X j) (piece Y j) = 0) : ordP X Y = 0 := by
  rw [ordP_drop (Nat.le_refl _) (Nat.le_of_eq hy) h, List.drop_length, hy, List.drop_length]
  rfl
theorem ordP_right {X Y : List ByteArray} (hy : Y.length < X.length) (h : ∀ j, j < Y.length → cmpS (piece X j) (piece Y j) = 0) : ordP X Y = 1 := by
  rw [ordP_drop (Nat.le_of_lt hy) (Nat.le_refl _) h, List.drop_eq_getElem_cons hy, List.drop_length]
  rfl
theorem slice_form' {t : TypeId} {w : World} {B : Nat} {v : Value} {l : List ByteArray} (h : OwnSs t w B v l) : ∃ p cap, v = .slice p l.length cap ∧ (0 < l.length → ∃ g, p = some ⟨g, 0, none⟩) := by
  rcases h.form with ⟨rfl, rfl⟩ | ⟨g, cap, rfl, hgB, hgw, hcap, hcapm⟩
  · exact ⟨none, 0, rfl, fun h => absurd h (by simp)⟩
  · exact ⟨_, _, rfl, fun _ => ⟨g, rfl⟩⟩
theorem parts_len' {s : ByteArray} (hs : s.size ≤ 1048576) : (pathParts s).length ≤ 8000000000 := by
  unfold pathParts
  split
  · simp
  · have := partsL_length 47 s.data.toList
    unfold partsS
    rw [List.length_map]
    have e := Lib.size_eq s
    omega
end Go.Creel
namespace Go.Proofs.YtaffgndickdbiaaGreatDoor
open Go.Creel Go.RowKit
set_option maxRecDepth 100000 in
theorem isNaN_any (x : ByteArray) (w : World) : Calls Tryz.prog 228 #[.string x] w fun e w' => e = .returned (.bool false) ∧ w = w' := by
  have he : (x.toList == x.toList) = true := by simp
  go_enter Tryz.func228, Tryz.ntmps228
  go_wp2
  go_ret
  exact ⟨by simp, rfl⟩
set_option maxRecDepth 100000 in
theorem cmpS_any (x y : ByteArray) (w : World) : Calls Tryz.prog 207 #[.string x, .string y] w fun e w' => e = .returned (.int .i64 (cmpS x y)) ∧ w = w' := by
  rcases cmpS_cases x y with ⟨h1, h3⟩ | ⟨h1, h2, h3⟩ | ⟨h1, h2, h3⟩
  all_goals
    have HF := Lib.hid h3
    clear h3
    go_enter Tryz.func207, Tryz.ntmps207
    go_wp2_with (go_at_call 228; refine (isNaN_any _ _).mono ?_; rintro e w' ⟨rfl, rfl⟩)
    go_ret
    exact ⟨ret_i HF.out, rfl⟩
set_option maxRecDepth 100000 in
set_option maxHeartbeats 2000000 in
theorem cmpTexts_any (w : World) (B C : Nat) (v u : Value) (X Y : List ByteArray) (hX : X.length ≤ 8000000000) (hY : Y.length ≤ 8000000000) (hv : OwnSs 9 w B v X) (hu : OwnSs 9 w C u Y) :
    Calls Tryz.prog 160 #[v, u] w fun e w' => e = .returned (.int .i64 (ordP X Y)) ∧ Below w.heap.size w w' := by
  obtain ⟨p, cap, rfl, hp⟩ := slice_form' hv
  obtain ⟨q, caq, rfl, hq⟩ := slice_form' hu
  have HV := Lib.hid hv
  have HU := Lib.hid hu
  have HP := Lib.hid hp
  have HQ := Lib.hid hq
  clear hv hu hp hq
  go_enter Tryz.func160, Tryz.ntmps160
  go_wp2
  go_loopw [5, 11] (fun _ i wr => ∃ k : Nat, k ≤ X.length ∧ k ≤ Y.length ∧ i = .int .i64 k ∧ Hid (∀ j, j < k → cmpS (piece X j) (piece Y j) = 0) ∧ Below w.heap.size w wr) (fun _ i _ => X.length - (intOf i).toNat)
  case atStart => exact ⟨0, by omega, by omega, rfl, Lib.hid fun j hj => absurd hj (by omega), Below.refl _ _⟩
  case round =>
    obtain ⟨k, hk, hk2, rfl, HD, hb⟩ := hrel
    by_cases hlt : k < X.length
    · obtain ⟨g, rfl⟩ := HP.out (by omega)
      have hc := (HV.out.below hb).cell hlt
      by_cases hlt2 : k < Y.length
      · obtain ⟨g2, rfl⟩ := HQ.out (by omega)
        have hc2 := (HU.out.below hb).cell hlt2
        have HBB := Lib.hid hb
        clear hb
        by_cases h0 : cmpS (piece X k) (piece Y k) = 0
        · have H0 := Lib.hid h0
          go_wp2_with (go_at_call 207; refine (cmpS_any _ _ _).mono ?_; rintro e w' ⟨rfl, rfl⟩; rw [H0.out])
          go_roundw
          case rel =>
            refine ⟨k + 1, by omega, by omega, by go_num, Lib.hid fun j hj => ?_, HBB.out⟩
            by_cases e : j = k
            · rw [e]; exact H0.out
            · exact HD.out j (by omega)
          case measure => simp [intOf]; omega
        · have HF := Lib.hid (ordP_at hlt hlt2 HD.out h0)
          have HC := Lib.hid (cmpS_any (piece X k) (piece Y k))
          clear hc2
          have hc2 := (HU.out.below HBB.out).cell hlt2
          generalize cmpS (piece X k) (piece Y k) = c at *
          generalize piece X k = x at *
          generalize piece Y k = y at *
          go_wp2_with (go_at_call 207; refine (HC.out _).mono ?_; rintro e w' ⟨rfl, rfl⟩)
          go_ret
          exact ⟨ret_i HF.out, HBB.out⟩
      · obtain rfl : k = Y.length := by omega
        have HF := Lib.hid (ordP_right hlt HD.out)
        have HBB := Lib.hid hb
        clear hb
        go_wp2
        go_ret
        exact ⟨ret_i HF.out, HBB.out⟩
    · obtain rfl : k = X.length := by omega
      have HBB := Lib.hid hb
      clear hb
      by_cases hlt2 : X.length < Y.length
      · have HF := Lib.hid (ordP_left hlt2 HD.out)
        go_wp2
        go_ret
        exact ⟨ret_i HF.out, HBB.out⟩
      · have HF := Lib.hid (ordP_both (by omega) HD.out)
        go_wp2
        go_ret
        exact ⟨ret_i HF.out, HBB.out⟩
set_option maxRecDepth 100000 in
set_option maxHeartbeats 2000000 in
theorem PathOrder_any (a b : ByteArray) (w : World) (ha : a.size ≤ 1048576) (hb : b.size ≤ 1048576) :
    Calls Tryz.prog 115 #[.string a, .string b] w fun e w' => e = .returned (.int .i64 (ordP (pathParts a) (pathParts b))) ∧ Below w.heap.size w w' := by
  have hX : (pathParts a).length ≤ 8000000000 := parts_len' ha
  have hY : (pathParts b).length ≤ 8000000000 := parts_len' hb
  generalize hXX : pathParts a = X at *
  generalize hYY : pathParts b = Y at *
  have HXX := Lib.hid hXX
  have HYY := Lib.hid hYY
  clear hXX hYY
  go_enter Tryz.func115, Tryz.ntmps115
  go_wp2_with fail
  refine (PathParts_any _ _ (by omega)).mono ?_
  rintro e w1 ⟨v1, rfl, ho, hb1⟩
  rw [HXX.out] at ho
  have HB1 := Lib.hid hb1
  have HO1 := Lib.hid ho
  clear hb1 ho
  go_wp2_with fail
  refine (PathParts_any _ _ (by omega)).mono ?_
  rintro e w2 ⟨v2, rfl, ho, hb2⟩
  rw [HYY.out] at ho
  have HB2 := Lib.hid (HB1.out.trans (hb2.mono HB1.out.size))
  have HV := Lib.hid (HO1.out.below hb2)
  have HU := Lib.hid ho
  clear hb2 ho
  obtain ⟨p, cap, rfl, hp⟩ := slice_form' HV.out
  obtain ⟨q, caq, rfl, hq⟩ := slice_form' HU.out
  go_wp2
  have HP := Lib.hid hp
  have HQ := Lib.hid hq
  clear hp hq
  go_loopw [7] (fun i wr => ∃ k : Nat, k ≤ X.length ∧ k ≤ Y.length ∧ i = .int .i64 k ∧ Hid (∀ j, j < k → cmpS (piece X j) (piece Y j) = 0) ∧ Below w2.heap.size w2 wr) (fun i _ => X.length - (intOf i).toNat)
  case atStart => exact ⟨0, by omega, by omega, rfl, Lib.hid fun j hj => absurd hj (by omega), Below.refl _ _⟩
  case round =>
    obtain ⟨k, hk, hk2, rfl, HD, hbb⟩ := hrel
    by_cases hlt : k < X.length
    · by_cases hlt2 : k < Y.length
      · obtain ⟨g, rfl⟩ := HP.out (by omega)
        obtain ⟨g2, rfl⟩ := HQ.out (by omega)
        have hc := (HV.out.below hbb).cell hlt
        have hc2 := (HU.out.below hbb).cell hlt2
        have HBB := Lib.hid hbb
        clear hbb
        have HAT := Lib.hid (ordP_at hlt hlt2 HD.out)
        generalize hx : piece X k = x at *
        generalize hy : piece Y k = y at *
        have HX := Lib.hid hx
        have HY := Lib.hid hy
        clear hx hy
        rcases cmpS_cases x y with ⟨h1, h3⟩ | ⟨h1, h2, h3⟩ | ⟨h1, h2, h3⟩
        · have HF := Lib.hid ((HAT.out (by rw [h3]; decide)).trans h3)
          clear h3
          go_wp2
          go_quiet (fail)
          go_wp2
          go_ret
          exact ⟨ret_i HF.out, HB2.out.trans ((HBB.out.trans (below_draws _ _ _)).mono HB2.out.size)⟩
        · have H0 := Lib.hid h3
          clear h3
          go_wp2
          go_quiet (fail)
          go_wp2
          go_quiet (fail)
          go_wp2
          go_roundw
          case rel =>
            refine ⟨k + 1, by omega, by omega, by go_num, Lib.hid fun j hj => ?_, HBB.out.trans (below_draws _ _ _)⟩
            by_cases e : j = k
            · rw [e, HX.out, HY.out]; exact H0.out
            · exact HD.out j (by omega)
          case measure => simp [intOf]; omega
        · have HF := Lib.hid ((HAT.out (by rw [h3]; decide)).trans h3)
          clear h3
          go_wp2
          go_quiet (fail)
          go_wp2
          go_quiet (fail)
          go_wp2
          go_ret
          exact ⟨ret_i HF.out, HB2.out.trans (((HBB.out.trans (below_draws _ _ _)).trans (below_draws _ _ _)).mono HB2.out.size)⟩
      · obtain rfl : k = Y.length := by omega
        have HF := Lib.hid (ordP_right hlt HD.out)
        have HBB := Lib.hid hbb
        clear hbb
        go_wp2
        go_ret
        exact ⟨ret_i HF.out, HB2.out.trans (HBB.out.mono HB2.out.size)⟩
    · obtain rfl : k = X.length := by omega
      have HBB := Lib.hid hbb
      clear hbb
      by_cases hlt2 : X.length < Y.length
      · have HF := Lib.hid (ordP_left hlt2 HD.out)
        go_wp2
        go_ret
        exact ⟨ret_i HF.out, HB2.out.trans (HBB.out.mono HB2.out.size)⟩
      · have HF := Lib.hid (ordP_both (by omega) HD.out)
        go_wp2
        go_ret
        exact ⟨ret_i HF.out, HB2.out.trans (HBB.out.mono HB2.out.size)⟩
end Go.Proofs.YtaffgndickdbiaaGreatDoor
