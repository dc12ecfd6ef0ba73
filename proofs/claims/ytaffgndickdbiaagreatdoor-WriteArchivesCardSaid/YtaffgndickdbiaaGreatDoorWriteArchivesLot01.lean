/-
  Texts of this proof, one behind the other: PadFill, MemBSpec, Marked, Pen, Head, RecG, MemW.
-/
import Derived.Test.YtaffgndickdbiaaGreatDoorSame
import Derived.Test.YtaffgndickdbiaaGreatDoorMemSpec
import Derived.Test.YtaffgndickdbiaaGreatDoorHeadSpec
import Derived.Test.YtaffgndickdbiaaGreatDoorPaxW
import Derived.Lib.ItoaLen
import Derived.Test.YtaffgndickdbiaaGreatDoorAppend
import Derived.Lib.ConvBytes
import Derived.Lib.Builder
import Derived.Lib.AppendStr
import Derived.Lib.UnsafeStr
import Derived.Test.YtaffgndickdbiaaGreatDoorRecSt
import Derived.Test.YtaffgndickdbiaaGreatDoorPackL
/-
  pad.Blocks, pad.Fill and their references.
-/
namespace Go.Creel
set_option linter.unusedVariables false
open Go.RowKit
def padBlocks (n : Int) : Int × Int := if 0 ≤ n ∧ n ≤ 8589934591 then ((n + 511) / 512, 0) else (0, 4)
def padLack (n : Nat) : Nat := (512 - n % 512) % 512
def padFill (l : List UInt8) : List UInt8 := l ++ List.replicate (padLack l.length) 0
/-- A slice of bytes is handed back, new, and nothing that was there is written. -/
def RetBs (t : TypeId) (w : World) (l : List UInt8) (e : Ending) (w' : World) : Prop := ∃ v, e = .returned v ∧ OwnBs t w' w.heap.size v l ∧ Below w.heap.size w w'
/-- the length in a slot, for a measure -/
def vlen : Value → Nat | .slice _ n _ => n | _ => 0
theorem padLack_zero {n m : Nat} (h : (n + m) % 512 = 0) (hm : m ≤ padLack n) : m = padLack n := by unfold padLack at *; omega
theorem padLack_lt {n m : Nat} (h : (n + m) % 512 ≠ 0) (hm : m ≤ padLack n) : m < padLack n := by unfold padLack at *; omega
theorem padLack_lt512 (n : Nat) : padLack n < 512 := by unfold padLack; omega
theorem rep_snoc (l : List UInt8) (m : Nat) : l ++ List.replicate m 0 ++ [0] = l ++ List.replicate (m + 1) 0 := by rw [List.append_assoc, List.replicate_succ']
end Go.Creel
namespace Go.Proofs.YtaffgndickdbiaaGreatDoor
set_option linter.unusedVariables false
open Go.Creel Go.RowKit
set_option maxRecDepth 100000 in
theorem Blocks_any (n : Int) (w : World) (hn : i64 n) :
    Calls Tryz.prog 171 #[.int .i64 n] w fun e w' => e = .returned (.tuple #[.int .i64 (padBlocks n).1, .int .i64 (padBlocks n).2]) ∧ w = w' := by
  unfold i64 at hn
  by_cases h : 0 ≤ n ∧ n ≤ 8589934591
  · have HF := Lib.hid (show padBlocks n = ((n + 511) / 512, 0) by unfold padBlocks; rw [if_pos h])
    obtain ⟨h1, h2⟩ := h
    go_enter Tryz.func171, Tryz.ntmps171
    go_wp2
    go_ret2
    exact ⟨ret_ii (by rw [HF.out]; congr 2; omega), rfl⟩
  · have HF := Lib.hid (show padBlocks n = (0, 4) by unfold padBlocks; rw [if_neg h])
    have HN := Lib.hid h
    clear h
    go_enter Tryz.func171, Tryz.ntmps171
    go_wp2
    all_goals first
      | (exfalso; have := HN.out; omega)
      | (go_ret2; exact ⟨ret_ii HF.out, rfl⟩)
set_option maxRecDepth 100000 in
theorem PadBlocks_any (n : Int) (w : World) (hn : i64 n) :
    Calls Tryz.prog 182 #[.int .i64 n] w fun e w' => e = .returned (.tuple #[.int .i64 (padBlocks n).1, .int .i64 (padBlocks n).2]) ∧ w = w' := by
  unfold i64 at hn
  by_cases h : 0 ≤ n ∧ n ≤ 8589934591
  · have HF := Lib.hid (show padBlocks n = ((n + 511) / 512, 0) by unfold padBlocks; rw [if_pos h])
    obtain ⟨h1, h2⟩ := h
    go_enter Tryz.func182, Tryz.ntmps182
    go_wp2
    all_goals (go_ret2; exact ⟨ret_ii (by rw [HF.out]; congr 1; omega), rfl⟩)
  · have HF := Lib.hid (show padBlocks n = (0, 4) by unfold padBlocks; rw [if_neg h])
    have HN := Lib.hid h
    clear h
    go_enter Tryz.func182, Tryz.ntmps182
    go_wp2
    all_goals first
      | (exfalso; have := HN.out; omega)
      | (go_ret2; exact ⟨ret_ii HF.out, rfl⟩)
theorem info_byte2 : (Tryz.prog.info? 5).map (fun i => (i.zero, i.size, i.bytes)) = some (some (.int .u8 0), 1, 1) := by kernel_rfl
set_option maxRecDepth 100000 in
set_option maxHeartbeats 400000 in
theorem Fill_any {N : Nat} (v : Value) (l : List UInt8) (w : World) (h : SliceC N 1 ByteC w [v] l) (hl : l.length ≤ 140737488354000) :
    Calls Tryz.prog 40 #[v] w (RetBs 5 w (padFill l)) := by
  obtain ⟨i0, hi, hz0, hz1, hz2⟩ := info_parts info_byte2
  have H := Lib.hid h
  have hlk := padLack_lt512 l.length
  have HI := Lib.hid (And.intro hi (And.intro hz0 (And.intro hz1 hz2)))
  obtain ⟨a, cap, hv⟩ : ∃ a cap, v = .slice a l.length cap := by
    obtain ⟨a, cap, hv, _⟩ := h
    exact ⟨a, cap, by simpa using hv⟩
  subst hv
  have HL := Lib.hid (show (-((l.length : Int) % 512)) % 512 = (padLack l.length : Int) by unfold padLack; omega)
  clear h hi hz0 hz1 hz2
  go_enter Tryz.func40, Tryz.ntmps40
  go_wp2_with (first
    | (at_builtin; refine wpList_app _ rfl (.const (.slice none 0 0)) (.tmp 9) 24 24 rfl _ _ rfl rfl (fun ty => app_bytes (l := []) (B := w.heap.size) _ _ _ _ _ i0 Tryz.underlying24 Tryz.underlying24 HI.out.1 HI.out.2.1 HI.out.2.2.1 HI.out.2.2.2 (OwnBs.nil _ _ _) H.out (by simp; omega) (Nat.le_refl _) ty) ?_; intro v1 w1 ho hg _; have HO := Lib.hid (OwnBs.app (l := []) ho); have HB := Lib.hid (below_app (Below.refl w.heap.size w) hg (World.ownsRow_nil w w.heap.size 5 1) (Nat.le_refl _)); clear ho hg)
    | (at_builtin; refine wpList_app _ rfl (.tmp 10) (.tmp 11) 24 3 rfl _ (.int .i64 (padLack l.length)) rfl (congrArg (Value.int .i64) HL.out) (fun ty => app_bytes_zeros (B := w.heap.size) _ _ _ _ i0 Tryz.underlying24 Tryz.underlying3 HI.out.1 HI.out.2.1 HI.out.2.2.1 HI.out.2.2.2 (padLack l.length) HO.out (by simp; omega) HB.out.size ty) ?_; intro v2 w2 ho hg _; have HO2 := Lib.hid (OwnBs.appz ho); have HB2 := Lib.hid (below_app HB.out hg HO.out HB.out.size); clear ho hg))
  go_ret
  refine ⟨_, rfl, ?_, HB2.out⟩
  have e := HO2.out
  simp only [List.nil_append] at e
  exact e
set_option maxRecDepth 100000 in
set_option maxHeartbeats 800000 in
theorem PadFill_any {N : Nat} (v : Value) (l : List UInt8) (w : World) (h : SliceC N 1 ByteC w [v] l) (hl : l.length ≤ 140737488354000) :
    Calls Tryz.prog 44 #[v] w (RetBs 5 w (padFill l)) := by
  obtain ⟨i0, hi, hz0, hz1, hz2⟩ := info_parts info_byte2
  have HI := Lib.hid (And.intro hi (And.intro hz0 (And.intro hz1 hz2)))
  have hlk := padLack_lt512 l.length
  have h0 : OwnBs 5 (w.alloc (.cells #[] 5)) w.heap.size (.slice (some ⟨w.heap.size, 0, none⟩) 0 0) [] := World.ownsRow_made w #[] 0 (Nat.le_refl _) (by simp) rfl
  have H0 := Lib.hid h0
  have hb0 := (Below.refl w.heap.size w).alloc (Nat.le_refl _) (.cells #[] 5)
  have H := Lib.hid (h.below (w' := w.alloc (.cells #[] 5)) (fun _ _ h => h) hb0)
  have HB0 := Lib.hid hb0
  have hsz0 : w.heap.size ≤ (w.alloc (.cells #[] 5)).heap.size := hb0.size
  have HS0 := Lib.hid hsz0
  clear h h0 hb0 hsz0 hi hz0 hz1 hz2
  go_enter Tryz.func44, Tryz.ntmps44
  go_wp2_with (at_builtin; refine wpList_app _ rfl (.tmp 4) (.tmp 5) 24 24 rfl _ _ rfl rfl (fun ty => app_bytes (l := []) (B := w.heap.size) _ _ _ _ _ i0 Tryz.underlying24 Tryz.underlying24 HI.out.1 HI.out.2.1 HI.out.2.2.1 HI.out.2.2.2 H0.out H.out (by simp; omega) HS0.out ty) ?_; intro v1 w1 ho hg _; have HO := Lib.hid (OwnBs.app (l := []) ho); have HB := Lib.hid (below_app HB0.out hg H0.out HS0.out); clear ho hg)
  go_loopw [3] (fun v wr => ∃ m : Nat, m ≤ padLack l.length ∧ OwnBs 5 wr w.heap.size v (l ++ List.replicate m 0) ∧ Below w.heap.size w wr) (fun v _ => 512 - (vlen v + 511) % 512)
  case atStart => exact ⟨0, by omega, by have := HO.out; simpa using this, HB.out⟩
  case round =>
    obtain ⟨m, hm, ho, hb⟩ := hrel
    have HO := Lib.hid ho
    have HBR := Lib.hid hb
    have hlen : (l ++ List.replicate m (0 : UInt8)).length = l.length + m := by simp
    obtain ⟨a, cap, hv⟩ : ∃ a cap, u3 = .slice a (l.length + m) cap := by
      rcases ho.form with ⟨e1, e2⟩ | ⟨g, cap, e1, _⟩
      · have := congrArg List.length e2
        rw [hlen] at this
        simp at this
        exact ⟨none, 0, by rw [e1]; simp [this]⟩
      · exact ⟨_, _, by rw [e1, hlen]⟩
    subst hv
    have HL := Lib.hid hlen
    have hbsz := hb.size
    clear ho hb hlen
    by_cases he : (l.length + m) % 512 = 0
    · have HM := Lib.hid (padLack_zero he hm)
      have hq : ((((l.length + m : Nat) : Int) % 512) != 0) = false := by rw [bne_eq_false_iff_eq]; omega
      clear he
      go_wp2
      go_ret
      refine ⟨_, rfl, ?_, HBR.out⟩
      have e : padFill l = l ++ List.replicate m 0 := by rw [HM.out]; rfl
      rw [e]
      exact HO.out
    · have HM := Lib.hid (padLack_lt he hm)
      have hq : ((((l.length + m : Nat) : Int) % 512) != 0) = true := by rw [bne_iff_ne]; omega
      have HE := Lib.hid he
      have hb1 := (Below.refl wr.heap.size wr).alloc (Nat.le_refl _) (.cells #[.int .u8 0] 5)
      have HO1 := Lib.hid (World.ownsRow.alloc HO.out (.cells #[.int .u8 0] 5))
      have HSZ := Lib.hid (show w.heap.size ≤ (wr.alloc (.cells #[.int .u8 0] 5)).heap.size from Nat.le_trans hbsz hb1.size)
      have HB1 := Lib.hid (HBR.out.alloc hbsz (.cells #[.int .u8 0] 5))
      clear he hb1
      go_wp2_with (at_builtin; refine wpList_app _ rfl (.tmp 11) (.tmp 12) 24 24 rfl _ _ rfl rfl (n := (l ++ List.replicate m (0 : UInt8)).length) (fun ty => app_src _ _ _ _ w.heap.size 5 i0 (.int .u8 0) 1 1 Tryz.underlying24 HI.out.1 HI.out.2.1 HI.out.2.2.1 HI.out.2.2.2 rfl (by decide) _ _ _ _ _ _ HO1.out (src_one wr _ _ _ Tryz.underlying24 _ rfl) (by rw [HL.out]; unfold maxLen; omega) (by rw [HL.out]; omega) HSZ.out) ?_; intro v1 w1 ho hg _)
      have HO2 := Lib.hid (OwnBs.app (m := [0]) ho)
      have HB2 := Lib.hid (below_app HB1.out hg HO1.out HSZ.out)
      clear ho hg
      go_wp2
      go_roundw
      case rel => exact ⟨m + 1, by have := HM.out; omega, by rw [← rep_snoc]; exact HO2.out, HB2.out⟩
      case measure =>
        have h1 : vlen v1 = l.length + m + 1 := by
          rcases HO2.out.form with ⟨_, e2⟩ | ⟨g, c, e1, _⟩
          · simp at e2
          · rw [e1]; simp [vlen]; omega
        have h2 := HM.out
        have h3 := HE.out
        show 512 - (vlen v1 + 511) % 512 < 512 - (l.length + m + 511) % 512
        rw [h1]; omega
end Go.Proofs.YtaffgndickdbiaaGreatDoor
/-
  A member's bytes: the plain words.
-/
namespace Go.Creel
set_option linter.unusedVariables false
set_option linter.unusedSimpArgs false
open Go.RowKit
def paxHead (n : Nat) : HeadN := ⟨⟨#[64, 112, 97, 120]⟩, ⟨#[]⟩, ⟨#[]⟩, 0, 0, 0, n, 0, 120, ⟨#[]⟩, ⟨#[]⟩⟩
/-- what stands ahead of a member's head: the records, in a member of their own -/
def memPre (l : List Rec) : List UInt8 := if l.length = 0 then [] else (headText (paxHead (paxWrite l).1.size)).1.data.toList ++ padFill (paxWrite l).1.data.toList
def memOwn (h : HeadN) (d : List UInt8) : List UInt8 := (headText h).1.data.toList ++ padFill d
noncomputable def memB (x : Ent) : List UInt8 := memPre (memRecs x) ++ memOwn (memHead x) x.data
noncomputable def memBytes (x : Ent) : List UInt8 × Int := if entFault x = 0 then (memB x, 0) else ([], entFault x)
theorem memBytes_ok {x : Ent} (h : entFault x = 0) : memBytes x = (memB x, 0) := if_pos h
theorem memBytes_bad {x : Ent} (h : ¬ entFault x = 0) : memBytes x = ([], entFault x) := if_neg h
theorem memPre_no {l : List Rec} (h : l.length = 0) : memPre l = [] := if_pos h
theorem memPre_yes {l : List Rec} (h : ¬ l.length = 0) : memPre l = (headText (paxHead (paxWrite l).1.size)).1.data.toList ++ padFill (paxWrite l).1.data.toList := if_neg h
theorem headText_le (n : HeadN) : (headText n).1.size ≤ 2000 := by
  unfold headText
  split
  · simp
  · split
    · simp
    · rename_i h
      have h0 : (headRef n).2 = 0 := by simpa using h
      have h1 := head_size n h0
      have h2 := octText_le (headSum (headRef n).1).1 7
      simp only [sumIn, ByteArray.size_append, ByteArray.size_extract, ofL_size, List.length_cons, List.length_nil]
      omega
theorem paxWrite_le (l : List Rec) : (paxWrite l).1.size ≤ 6792 := by
  by_cases h : paxFault l = 0
  · rw [paxWrite_ok h]
    have := (paxBytes_part h l.length).1
    rw [List.take_length] at this
    simp only [ofL_size]; exact this
  · rw [paxWrite_bad h]; simp
theorem padFill_le (l : List UInt8) : (padFill l).length ≤ l.length + 512 := by
  unfold padFill
  have := padLack_lt512 l.length
  simp; omega
theorem toL_len (s : ByteArray) : s.data.toList.length = s.size := by simp
theorem memPre_le (l : List Rec) : (memPre l).length ≤ 20000 := by
  unfold memPre
  split
  · simp
  · have h1 := headText_le (paxHead (paxWrite l).1.size)
    have h2 := paxWrite_le l
    have h3 := padFill_le (paxWrite l).1.data.toList
    rw [toL_len] at h3
    rw [List.length_append, toL_len]; omega
theorem memOwn_le (h : HeadN) (d : List UInt8) : (memOwn h d).length ≤ 2600 + d.length := by
  unfold memOwn
  have h1 := headText_le h
  have h3 := padFill_le d
  rw [List.length_append, toL_len]; omega
theorem cutTwo_le (s : ByteArray) : (cutTwo s).1.size ≤ s.size ∧ (cutTwo s).2.1.size ≤ s.size := by
  unfold cutTwo
  split
  · simp
  · unfold cutRest
    split
    · simp
    · split
      · simp only [ByteArray.size_extract]; omega
      · simp
theorem timeText_le (m : Meta) : (timeText m.second m.nano).1.size ≤ 100 := by
  unfold timeText
  split
  · simp
  · rename_i h
    have hf : timeFault m.second m.nano = 0 := by simpa using h
    obtain ⟨h1, h2, h3, h4⟩ := timeFault_ok hf
    have hs : (timeSign m.second).size ≤ 1 := by unfold timeSign; split <;> simp [ofL_size]
    have ht := Lib.itoa_length_le (timeS m.second m.nano) (by unfold timeS; split <;> (try split) <;> omega) (by unfold timeS; split <;> (try split) <;> omega)
    have hh : (timeHead m.second m.nano).size ≤ 30 := by
      unfold timeHead
      rw [ByteArray.size_append, ofL_size]; omega
    split
    · simp only; omega
    · have hd : (Lib.trimRightB (digs9 (timeN m.second m.nano).toNat 9) 48).length ≤ 9 := by
        unfold Lib.trimRightB
        rw [List.length_reverse]
        refine Nat.le_trans (List.IsSuffix.length_le (List.dropWhile_suffix _)) ?_
        rw [List.length_reverse, digs9_len]
        exact Nat.le_refl _
      simp only [ByteArray.size_append, ofL_size, List.length_cons, List.length_nil]
      omega
theorem memRecs_small {x : Ent} (hR : EntRight x) : ∀ r ∈ memRecs x, r.key.size ≤ maxLen ∧ r.value.size ≤ maxLen := by
  have hi : ∀ n : Int, 0 ≤ n ∧ n ≤ 1125899906842624 → (itoaB n).size ≤ 21 := fun n hn => by
    unfold itoaB; rw [ofL_size]; exact Lib.itoa_length_le n (by omega) (by omega)
  have h1 := hi _ hR.mt.gid
  have h2 := hi _ hR.mt.uid
  have h3 := hR.mt.user
  have h4 := hR.mt.group
  have h5 := hR.target
  have h6 := hR.pathSize
  have h7 := timeText_le x.mt
  have hk : kGid.size ≤ 10 ∧ kGname.size ≤ 10 ∧ kLink.size ≤ 10 ∧ kMtime.size ≤ 10 ∧ kPath.size ≤ 10 ∧ kUid.size ≤ 10 ∧ kUname.size ≤ 10 := by decide
  intro r hr
  unfold memRecs recNum recText1 recTime recPath at hr
  simp only [List.mem_append] at hr
  unfold maxLen
  rcases hr with (((((hr | hr) | hr) | hr) | hr) | hr) | hr <;> split at hr <;> simp only [List.mem_singleton, List.not_mem_nil] at hr <;> (try (subst hr; simp only; omega))
theorem memHead_small {x : Ent} (hR : EntRight x) : (memHead x).Ok maxLen := by
  have h1 := hR.mt.uid
  have h2 := hR.mt.gid
  have h3 := hR.mt.user
  have h4 := hR.mt.group
  have h5 := hR.target
  have h6 := hR.pathSize
  have h7 := hR.mt.mode
  have h8 := hR.data
  have h9 := hR.mt.second
  obtain ⟨c1, c2⟩ := cutTwo_le x.path
  have hl : sLong.size = 5 := by rfl
  have e0 : ByteArray.empty.size = 0 := rfl
  unfold memHead hidPath hidText hidNum hidTime
  unfold maxLen
  constructor <;> simp only <;> (try split) <;> first | omega | (unfold i64; omega)
end Go.Creel
/-
  A slice of bytes of the call's own, on a row that may bear a conversion's mark behind its cells; append onto it.
-/
namespace Go.Creel
set_option linter.unusedVariables false
set_option linter.unusedSimpArgs false
open Go.RowKit
def OwnM (t : TypeId) (w : World) (B : Nat) (v : Value) (l : List UInt8) : Prop :=
  (v = .slice none 0 0 ∧ l = []) ∨ ∃ g cap cur lo hi, v = .slice (some ⟨g, 0, none⟩) l.length cap ∧ B ≤ g ∧ w.heap[g]? = some (.cells cur t (lo, hi)) ∧ (hi ≤ lo ∨ cur.size ≤ lo) ∧ l.length ≤ cap ∧ cap ≤ maxLen ∧ cur.size = cap ∧ cur.toList.take l.length = l.map byteV
theorem OwnM.nil (t : TypeId) (w : World) (B : Nat) : OwnM t w B (.slice none 0 0) [] := .inl ⟨rfl, rfl⟩
theorem OwnBs.marked {t : TypeId} {w : World} {B : Nat} {v : Value} {l : List UInt8} (h : OwnBs t w B v l) : OwnM t w B v l := by
  rcases h.2 with ⟨rfl, h0⟩ | ⟨g, cap, cur, rfl, hbg, hg, hnc, hcm, hcs, htake⟩
  · exact .inl ⟨rfl, List.eq_nil_of_length_eq_zero h0⟩
  · exact .inr ⟨g, cap, cur, 0, 0, rfl, hbg, hg, .inl (Nat.le_refl _), hnc, hcm, by simpa using hcs, by simpa using htake⟩
theorem toList_len (s : ByteArray) : s.data.toList.length = s.size := by simp
theorem OwnM.conv (w : World) (t : TypeId) (s : ByteArray) (h : s.size ≤ maxLen) : OwnM t (Lib.bytesWorld w t s) w.heap.size (.slice (some ⟨w.heap.size, 0, none⟩) s.size (grownCap w s.size 0 t)) s.data.toList := by
  have hge := grownCap_ge w s.size 0 t
  have hcs : (Lib.bytesCells w t s).size = grownCap w s.size 0 t := by
    unfold Lib.bytesCells
    simp only [Array.size_append, Array.size_map, Array.size_replicate]
    have : s.data.size = s.size := rfl
    omega
  refine .inr ⟨w.heap.size, _, _, _, _, by rw [toList_len], Nat.le_refl _, Lib.bytesWorld_at_new w t s, .inr (Nat.le_refl _), by rw [toList_len]; exact hge, grownCap_le_maxLen w s.size 0 t h, hcs, ?_⟩
  unfold Lib.bytesCells
  rw [Array.toList_append, Array.toList_map]
  rw [show s.data.toList.length = (s.data.toList.map fun b => Value.int .u8 b.toNat).length by simp]
  exact List.take_left
theorem conv_below (w : World) (t : TypeId) (s : ByteArray) : Below w.heap.size w (Lib.bytesWorld w t s) :=
  ⟨rfl, rfl, rfl, by rw [Lib.bytesWorld_size]; omega, fun k hk => Lib.bytesWorld_at_old w t s k hk⟩
section
variable {t : TypeId} {w w' : World} {B B' : Nat} {v : Value} {l m : List UInt8}
theorem OwnM.below (h : OwnM t w B v l) (hb : Below w.heap.size w w') : OwnM t w' B v l := by
  rcases h with h | ⟨g, cap, cur, lo, hi, h1, h2, h3, h4⟩
  · exact .inl h
  · exact .inr ⟨g, cap, cur, lo, hi, h1, h2, (hb.block g (Array.getElem?_eq_some_iff.1 h3).1).trans h3, h4⟩
theorem OwnM.mono (h : OwnM t w B v l) (hb : B' ≤ B) : OwnM t w B' v l := by
  rcases h with h | ⟨g, cap, cur, lo, hi, h1, h2, h3⟩
  · exact .inl h
  · exact .inr ⟨g, cap, cur, lo, hi, h1, Nat.le_trans hb h2, h3⟩
theorem OwnM.lt (h : OwnM t w B v l) {k : Nat} (hk : v.ownBlock = some k) : B ≤ k ∧ k < w.heap.size := by
  rcases h with ⟨rfl, _⟩ | ⟨g, cap, cur, lo, hi, rfl, h2, h3, _⟩
  · cases hk
  · cases hk; exact ⟨h2, (Array.getElem?_eq_some_iff.1 h3).1⟩
theorem OwnM.form (h : OwnM t w B v l) : ∃ a cap, v = .slice a l.length cap ∧ cap ≤ maxLen := by
  rcases h with ⟨rfl, rfl⟩ | ⟨g, cap, cur, lo, hi, rfl, _, _, _, _, h6, _⟩
  · exact ⟨none, 0, rfl, by simp⟩
  · exact ⟨_, cap, rfl, h6⟩
theorem OwnM.slice {N : Nat} (h : OwnM t w B v l) (hN : l.length ≤ N) : SliceC N 1 ByteC w [v] l := by
  rcases h with ⟨rfl, rfl⟩ | ⟨g, cap, cur, lo, hi, rfl, _, hg, _, hnc, hcm, hcs, htake⟩
  · exact ⟨none, 0, rfl, by simp, by simp, by simp, fun _ => rfl, fun h => absurd h (by simp)⟩
  · refine ⟨some ⟨g, 0, none⟩, cap, rfl, hnc, hcm, hN, (fun h => by cases h), fun _ => ⟨g, 0, rfl, fun i hi => ⟨[byteV l[i]], rfl, fun j hj => ?_, rfl⟩⟩⟩
    obtain rfl : j = 0 := by omega
    simp only [Nat.zero_add, Nat.mul_one, Nat.add_zero]
    rw [cell_of_row w g i cur t _ hg]
    have e := congrArg (fun x => x[i]?) htake
    simp only [List.getElem?_take, hi, if_true, List.getElem?_map, List.getElem?_eq_getElem hi, Option.map_some] at e
    simpa using e
/-- a store into a marked row -/
theorem heap_setCell_marked (w : World) (g i : Nat) (cs : Array Value) (t : TypeId) (fr : Nat × Nat) (v : Value) (hg : w.heap[g]? = some (.cells cs t fr)) :
    (w.setCell ⟨g, i, none⟩ v).heap[g]? = some (.cells (cs.setIfInBounds i v) t fr) := by
  simp [World.setCell, Array.getElem?_modify, hg]
theorem setCells_marked (g : Nat) {e : TypeId} {fr : Nat × Nat} : ∀ (vs : List Value) (o : Nat) (w : World) (cur : Array Value), w.heap[g]? = some (.cells cur e fr) → o + vs.length ≤ cur.size →
    ∃ cur' : Array Value, (w.setCells g o vs).heap[g]? = some (.cells cur' e fr) ∧ cur'.size = cur.size ∧ cur'.toList.take (o + vs.length) = cur.toList.take o ++ vs
  | [], o, w, cur, h, _ => ⟨cur, h, rfl, by simp⟩
  | v :: r, o, w, cur, h, hl => by
    have h1 := heap_setCell_marked w g o cur e fr v h
    obtain ⟨cur', a1, a2, a3⟩ := setCells_marked g r (o + 1) (w.setCell ⟨g, o, none⟩ v) _ h1 (by simp at hl ⊢; omega)
    refine ⟨cur', a1, by simpa using a2, ?_⟩
    have e1 : o + (v :: r).length = o + 1 + r.length := by simp; omega
    rw [e1, a3]
    have ho : o < cur.toList.length := by simp at hl ⊢; omega
    rw [Array.toList_setIfInBounds, List.take_succ_eq_append_getElem (by simpa using ho)]
    simp [List.take_set, List.getElem_set]
    exact List.set_eq_of_length_le (by simp; omega)
theorem src_str {P : Program} {w : World} {tx : TypeId} (hk : P.underlying tx = some .string) (s : ByteArray) : Src P 1 tx (.string s) s.data.toList.length (s.data.toList.map byteV) w := by
  rw [toList_len]; exact Src.ofString w hk s
end
/-- What an append of bytes comes to, onto a slice of the call's own. -/
def AppM (P : Program) (w : World) (t tx ty : TypeId) (v x : Value) (B : Nat) (e : TypeId) (l m : List UInt8) : Prop :=
  ∃ v' w', (Builtin.append_ #[t, tx] ty #[v, x]).run P w = .ok v' w' ∧ OwnM e w' B v' (l ++ m) ∧ w.grownBy w' v.ownBlock
theorem app_m {P : Program} (w : World) (t tx e ty : TypeId) (i : TypeInfo) (ht : P.underlying t = some (.slice e)) (hi : P.info? e = some i) (hz : i.zero = some (.int .u8 0)) (h1 : i.size = 1) (hb : i.bytes = 1)
    {B : Nat} {v x : Value} {l m : List UInt8} (hv : OwnM e w B v l) (hs : Src P 1 tx x m.length (m.map byteV) w) (hbound : l.length + m.length ≤ 140737488355328) (hB : B ≤ w.heap.size) : AppM P w t tx ty v x B e l m := by
  rcases hv with ⟨rfl, rfl⟩ | ⟨g, cap, cur, lo, hi', rfl, hbg, hg, hmk, hnc, hcm, hcs, htake⟩
  · obtain ⟨v', w', a1, a2, a3, _⟩ := app_src w t tx ty B e i (.int .u8 0) 1 1 ht hi hz h1 hb rfl (by decide) (.slice none 0 0) x 0 m.length [] (m.map byteV) (World.ownsRow_nil w B e 1) hs (by unfold maxLen; simp at hbound; omega) (by simp at hbound; omega) hB
    exact ⟨v', w', a1, (OwnBs.app (l := []) (m := m) (by simpa using a2)).marked, a3⟩
  · by_cases hroom : l.length + m.length ≤ cap
    · have hfz : ∀ j, j < cur.size → w.frozen? ⟨g, j, none⟩ = false := by
        intro j hj
        simp only [World.frozen?, hg]
        rcases hmk with h | h
        · simp; omega
        · simp; omega
      have hr := run_append_room_src (P := P) w t tx ty e i ht hi g 0 l.length cap x m.length (m.map byteV) (by rw [h1]; exact hs) hroom
        (fun j hj => by rw [h1, cell_of_row w g _ cur e _ hg, Nat.zero_add, Array.getElem?_eq_getElem (by simp at hj; omega)]; rfl) (fun j hj => by rw [h1]; exact hfz _ (by simp at hj; omega))
      rw [Nat.zero_add, h1, Nat.mul_one] at hr
      obtain ⟨cur', a1, a2, a3⟩ := setCells_marked g (m.map byteV) l.length w cur hg (by simp; omega)
      obtain ⟨m1, m2, m3, m4⟩ := setCells_meta g (m.map byteV) l.length w
      refine ⟨_, _, hr, .inr ⟨g, cap, cur', lo, hi', by rw [List.length_append], hbg, a1, by rw [a2]; exact hmk, by rw [List.length_append]; exact hroom, hcm, a2.trans hcs, ?_⟩, ⟨m1, m2, m3, by omega, fun k _ hk => setCells_other g (m.map byteV) _ w k (fun e => hk (by rw [e]; rfl))⟩⟩
      rw [List.length_append, List.map_append, ← htake]
      simpa using a3
    · have holds : ∀ j u, (l.map byteV)[j]? = some u → w.drew.cell? ((⟨g, 0, none⟩ : Addr).add j) = some u := by
        intro j u hu
        have hj : j < l.length := by
          rcases Nat.lt_or_ge j l.length with h | h
          · exact h
          · rw [List.getElem?_eq_none (by simpa using h)] at hu; cases hu
        have ea : (⟨g, 0, none⟩ : Addr).add j = ⟨g, j, none⟩ := by unfold Addr.add; split <;> simp_all
        rw [ea]
        show w.cell? ⟨g, j, none⟩ = some u
        rw [cell_of_row w g j cur e _ hg, ← hu, ← htake]
        simp [List.getElem?_take, hj]
      have hold := run_firstCells_some (P := P) w.drew i.size l.length ⟨g, 0, none⟩ l.length cap (l.map byteV) (by rw [h1]; simp) holds
      have hr := run_append_grow_src (P := P) w t tx ty e i (.int .u8 0) ht hi hz (some ⟨g, 0, none⟩) l.length cap (l.map byteV) hold x m.length (m.map byteV) (by rw [h1]; exact hs) (by omega) (by omega) (growslice_fits (by omega) (by rw [hb]; omega))
      have hgr := own_grown w B e 1 l.length m.length cap (.int .u8 0) (l.map byteV) (m.map byteV) rfl (by simp) (by simp) (by unfold maxLen; omega) (by omega) hB (some g)
      exact ⟨_, _, hr, (OwnBs.app hgr.1).marked, hgr.2⟩
/-- the operation, for the walk -/
theorem wpList_appM {P : Program} {w : World} {ops : Array Oper} {rest : List Oper} {o : Oper} {a : Act} {Q : Exit → Act → World → Prop} (hgd : o.guard = none) (s x : Operand) (t tx : TypeId)
    (ho : o.op = .call { callee := .builtin .append, args := #[s, x], argTypes := #[t, tx] }) (vs vx : Value) (hs : a.eval s = vs) (hx : a.eval x = vx) {B : Nat} {e : TypeId} {l m : List UInt8}
    (happ : ∀ ty, AppM P w t tx ty vs vx B e l m)
    (h : ∀ v' w', OwnM e w' B v' (l ++ m) → w.grownBy w' vs.ownBlock → wpList P ops Q rest (a.put o.dst v') w') : wpList P ops Q (o :: rest) a w := by
  obtain ⟨v', w', hr, h1, h2⟩ := happ o.type
  exact Lib.wpList_append_run w hgd s x t tx ho vs vx hs hx v' w' hr (h v' w' h1 h2)
/-- .. as one step of a region that draws its order -/
theorem step_appM {P : Program} {w : World} {ops : Array Oper} {o : Oper} {a : Act} {K : Act → World → Prop} {Q : Exit → Act → World → Prop} {E : Prop} (hgd : o.guard = none) (s x : Operand) (t tx : TypeId)
    (ho : o.op = .call { callee := .builtin .append, args := #[s, x], argTypes := #[t, tx] }) (vs vx : Value) (hs : a.eval s = vs) (hx : a.eval x = vx) {B : Nat} {e : TypeId} {l m : List UInt8}
    (happ : ∀ ty, AppM P w t tx ty vs vx B e l m)
    (h : ∀ v' w', OwnM e w' B v' (l ++ m) → w.grownBy w' vs.ownBlock → K (a.put o.dst v') w') :
    if Region.wanted o (yielded ops a.tmps) = true then Oper.wp P o a w K Q else E := by
  obtain ⟨v', w', hr, h1, h2⟩ := happ o.type
  have hw : Region.wanted o (yielded ops a.tmps) = true := by simp [Region.wanted, hgd]
  rw [if_pos hw]
  unfold Oper.wp execOp
  simp only [ho, resolve, invoke, builtin, Sem.run_bind, Sem.run_pure, Result.andThen_ok, List.map_toArray, List.map_cons, List.map_nil, hs, hx, hr]
  exact h v' w' h1 h2
theorem OwnM.grown {t : TypeId} {w0 w w' : World} {B C : Nat} {v : Value} {l : List UInt8} (hb : Below B w0 w) (hg : w.grownBy w' v.ownBlock) (hv : OwnM t w C v l) (hB : B ≤ w.heap.size) (hC : B ≤ C) : Below B w0 w' :=
  hb.grown hg hB (fun k hk => Nat.le_trans hC (hv.lt hk).1)
end Go.Creel
/-
  A pen: a strings.Builder within a struct, and what is wrong.
-/
namespace Go.Creel
set_option linter.unusedVariables false
set_option linter.unusedSimpArgs false
open Go.RowKit
def PenIs (T e : TypeId) (B b : Nat) (q : Value) (bs : List UInt8) (k : Int) (w : World) : Prop :=
  B ≤ b ∧ ∃ v, w.heap[b]? = some (.cells #[q, v, .int .i64 k] T (0, 0)) ∧ OwnBs e w B v bs ∧ v.ownBlock ≠ some b
variable {T e : TypeId} {B b : Nat} {q : Value} {bs : List UInt8} {k : Int} {w : World}
theorem PenIs.lt (h : PenIs T e B b q bs k w) : b < w.heap.size := by
  obtain ⟨_, v, hb, _⟩ := h
  exact (Array.getElem?_eq_some_iff.1 hb).1
theorem ownBs_below {w w' : World} {v : Value} (h : OwnBs e w B v bs) (hb : Below w.heap.size w w') : OwnBs e w' B v bs := by
  refine ⟨h.1, ?_⟩
  rcases h.2 with h0 | ⟨g, cap, cur, hv, hbg, hg, r⟩
  · exact .inl h0
  · refine .inr ⟨g, cap, cur, hv, hbg, ?_, r⟩
    rw [hb.block g (Array.getElem?_eq_some_iff.1 hg).1]
    exact hg
theorem PenIs.below {w' : World} (h : PenIs T e B b q bs k w) (hw : Below w.heap.size w w') : PenIs T e B b q bs k w' := by
  have hlt := h.lt
  obtain ⟨hB, v, hb, ho, hne⟩ := h
  exact ⟨hB, v, (hw.block b hlt).trans hb, ownBs_below ho hw, hne⟩
theorem PenIs.used (h : PenIs T e B b q bs k w) (q' : Value) : PenIs T e B b q' bs k (w.setCell ⟨b, 0, none⟩ q') := by
  obtain ⟨hB, v, hb, ho, hne⟩ := h
  refine ⟨hB, v, ?_, ?_, hne⟩
  · simp [World.setCell, Array.getElem?_modify, hb]
  · refine World.ownsRow.kept (row := some b) ho ⟨rfl, rfl, rfl, by simp [World.setCell], fun k _ hk => Below.heap_setCell _ _ _ _ (fun e => hk (by simp [e]))⟩ (Or.inr hne)
theorem PenIs.wrong (h : PenIs T e B b q bs k w) (k' : Int) : PenIs T e B b q bs k' (w.setCell ⟨b, 2, none⟩ (.int .i64 k')) := by
  obtain ⟨hB, v, hb, ho, hne⟩ := h
  refine ⟨hB, v, ?_, ?_, hne⟩
  · simp [World.setCell, Array.getElem?_modify, hb]
  · refine World.ownsRow.kept (row := some b) ho ⟨rfl, rfl, rfl, by simp [World.setCell], fun k _ hk => Below.heap_setCell _ _ _ _ (fun e => hk (by simp [e]))⟩ (Or.inr hne)
theorem PenIs.buf {v v' : Value} {bs' : List UInt8} (hB : B ≤ b) (hb : w.heap[b]? = some (.cells #[q, v, .int .i64 k] T (0, 0))) (ho : OwnBs e w B v' bs') (hTe : T ≠ e) : PenIs T e B b q bs' k (w.setCell ⟨b, 1, none⟩ v') := by
  have hne := Lib.ownBlock_ne ho hb hTe
  refine ⟨hB, v', ?_, ?_, hne⟩
  · simp [World.setCell, Array.getElem?_modify, hb]
  · refine World.ownsRow.kept (row := some b) ho ⟨rfl, rfl, rfl, by simp [World.setCell], fun k _ hk => Below.heap_setCell _ _ _ _ (fun e => hk (by simp [e]))⟩ (Or.inr hne)
theorem PenIs.new (T e : TypeId) (w : World) : PenIs T e w.heap.size w.heap.size (.pointer none) [] 0 (w.alloc (.cells #[.pointer none, .slice none 0 0, .int .i64 0] T)) :=
  ⟨Nat.le_refl _, .slice none 0 0, heap_alloc_new w _, World.ownsRow_nil _ _ _ _, by simp [Value.ownBlock]⟩
theorem strCells_bytes (s : ByteArray) : Lib.strCells s = s.data.toList.map byteV := rfl
end Go.Creel
namespace Go.Proofs.YtaffgndickdbiaaGreatDoor
set_option linter.unusedVariables false
set_option linter.unusedSimpArgs false
open Go.Creel Go.RowKit
theorem info_bu : (Tryz.prog.info? 124).map (·.size) = some 2 := by kernel_rfl
theorem lies_bu : liesAt Tryz.prog Tryz.prog.depth 129 (3 / Tryz.prog.cellsOf 129) 0 124 1 = true := by kernel_rfl
theorem cells_by : Tryz.prog.cellsOf 5 = 1 := by kernel_rfl
theorem info_by : (Tryz.prog.info? 5).map (fun i => (i.zero, i.size, i.bytes)) = some (some (.int .u8 0), 1, 1) := by kernel_rfl
set_option maxHeartbeats 1000000 in
set_option maxRecDepth 100000 in
theorem CopyUsed (b : Nat) (w : World) (h0 : w.cell? ⟨b, 0, none⟩ = some (.pointer (some ⟨b, 0, none⟩))) :
    Calls Tryz.prog 150 #[.pointer (some ⟨b, 0, none⟩)] w fun e w' => e = .returned (.tuple #[]) ∧ w' = w := by
  obtain ⟨j, hj, _⟩ := Option.map_eq_some_iff.1 info_bu
  go_enter Tryz.func150, Tryz.ntmps150
  go_wp2
  rw [Lib.run_neq_ptr_same w _ Tryz.underlying122 hj]
  go_wp2
  go_end0
  exact ⟨rfl, rfl⟩
set_option maxHeartbeats 1000000 in
set_option maxRecDepth 100000 in
theorem CopyFresh (b : Nat) (w : World) (h0 : w.cell? ⟨b, 0, none⟩ = some (.pointer none)) (hsh : w.shape? b = some (129, 3)) (hfz : w.frozen? ⟨b, 0, none⟩ = false) :
    Calls Tryz.prog 150 #[.pointer (some ⟨b, 0, none⟩)] w fun e w' => e = .returned (.tuple #[]) ∧ w' = w.setCell ⟨b, 0, none⟩ (.pointer (some ⟨b, 0, none⟩)) := by
  obtain ⟨j, hj, hjs⟩ := Option.map_eq_some_iff.1 info_bu
  go_enter Tryz.func150, Tryz.ntmps150
  go_wp2
  rw [Lib.run_to_unsafe w ⟨b, 0, none⟩ Tryz.underlying122 Tryz.underlying215 hj (by rw [hjs]; decide) hsh (Nat.zero_lt_succ 2)]
  simp only [Result.andThen]
  rw [Oper.upon_value]
  go_wp2
  rw [run_callFunc_extern Tryz.func201 (by kernel_rfl) (by kernel_rfl) (by kernel_rfl) (e := Extern.AbiNoEscape.same) (by kernel_rfl)]
  rw [Lib.run_noEscape]
  simp only [Result.andThen]
  rw [Oper.upon_value]
  go_wp2
  rw [Lib.run_from_unsafe w ⟨b, 0, none⟩ Tryz.underlying215 Tryz.underlying122 hj hsh lies_bu]
  simp only [Result.andThen]
  rw [Oper.upon_value]
  go_wp2
  go_end0
  exact ⟨rfl, rfl⟩
abbrev PenAt (B b : Nat) (q : Value) (bs : List UInt8) (k : Int) (w : World) : Prop := PenIs 129 5 B b q bs k w
/-- the pen, fresh or used -/
def PenBe (B b : Nat) (bs : List UInt8) (k : Int) (w : World) : Prop := PenAt B b (.pointer none) bs k w ∨ PenAt B b (.pointer (some ⟨b, 0, none⟩)) bs k w
theorem Copy_any (B b : Nat) (bs : List UInt8) (k : Int) (w : World) (h : PenBe B b bs k w) :
    Calls Tryz.prog 150 #[.pointer (some ⟨b, 0, none⟩)] w fun e w' => e = .returned (.tuple #[]) ∧ PenAt B b (.pointer (some ⟨b, 0, none⟩)) bs k w' ∧ Below B w w' := by
  rcases h with h | h
  · have h' := h
    obtain ⟨hB, v, hb, ho, hne⟩ := h'
    refine (CopyFresh b w (by rw [Lib.cell_of_heap hb]; rfl) (by simp [World.shape?, hb]) (Lib.frozen_of_heap hb 0)).mono ?_
    rintro e w' ⟨rfl, rfl⟩
    exact ⟨rfl, h.used _, (Below.refl B w).setCell (p := ⟨b, 0, none⟩) hB _⟩
  · have h' := h
    obtain ⟨hB, v, hb, ho, hne⟩ := h'
    refine (CopyUsed b w (by rw [Lib.cell_of_heap hb]; rfl)).mono ?_
    rintro e w' ⟨rfl, rfl⟩
    exact ⟨rfl, h, Below.refl B _⟩
set_option maxHeartbeats 2000000 in
set_option maxRecDepth 100000 in
theorem WriteS_any (B b : Nat) (bs : List UInt8) (k : Int) (s : ByteArray) (w : World) (h : PenBe B b bs k w) (hlen : bs.length + s.size ≤ 140737488355328) (hBw : B ≤ w.heap.size) :
    Calls Tryz.prog 93 #[.pointer (some ⟨b, 0, none⟩), .string s] w fun e w' => e = .returned (.tuple #[.int .i64 s.size, .nilIface]) ∧ PenAt B b (.pointer (some ⟨b, 0, none⟩)) (bs ++ s.data.toList) k w' ∧ Below B w w' := by
  obtain ⟨i0, hi, hz0, hz1, hz2⟩ := info_parts info_by
  go_enter Tryz.func93, Tryz.ntmps93
  go_wp2_with fail
  refine (Copy_any B b bs k _ h).mono ?_
  rintro e w1 ⟨rfl, h1, hb1⟩
  obtain ⟨hB, v, hbk, hown, hne⟩ := h1
  have c0 : w1.cell? ⟨b, 0, none⟩ = some (.pointer (some ⟨b, 0, none⟩)) := by rw [Lib.cell_of_heap hbk]; rfl
  have c1 : w1.cell? ⟨b, 1, none⟩ = some v := by rw [Lib.cell_of_heap hbk]; rfl
  go_wp2_with (at_builtin; refine Lib.wpList_append_own_string _ rfl _ _ 24 9 rfl B 5 i0 Tryz.underlying24 Tryz.underlying9 hi hz0 hz1 hz2 _ _ _ rfl hown s rfl ?c3 ?c4 ?c5 ?_)
  case c3 => unfold maxLen; omega
  case c4 => exact hlen
  case c5 => have := hb1.size; omega
  intro v' w2 hown' hgrow _
  have hlt : b < w1.heap.size := (Array.getElem?_eq_some_iff.1 hbk).1
  have hb2 : w2.heap[b]? = some (.cells #[.pointer (some ⟨b, 0, none⟩), v, .int .i64 k] 129 (0, 0)) := by
    rw [hgrow.block b hlt (fun e => hne e.symm)]
    exact hbk
  have d0 : w2.cell? ⟨b, 0, none⟩ = some (.pointer (some ⟨b, 0, none⟩)) := by rw [Lib.cell_of_heap hb2]; rfl
  have d1 : w2.cell? ⟨b, 1, none⟩ = some v := by rw [Lib.cell_of_heap hb2]; rfl
  have f1 : w2.frozen? ⟨b, 1, none⟩ = false := Lib.frozen_of_heap hb2 1
  have ho2 : OwnBs 5 w2 B v' (bs ++ s.data.toList) := by
    have := hown'
    rw [strCells_bytes] at this
    unfold OwnBs
    rw [List.length_append, List.map_append]
    simpa using this
  obtain ⟨ao, n', cap, rfl⟩ : ∃ ao n' cap, v' = .slice ao n' cap := by
    rcases hown'.2 with ⟨hv, _⟩ | ⟨g, cap, cur, hv, _⟩
    · exact ⟨_, _, _, hv⟩
    · exact ⟨_, _, _, hv⟩
  go_wp2
  go_ret2
  refine ⟨rfl, ?_, ?_⟩
  · exact PenIs.buf hB hb2 ho2 (by decide)
  · exact (hb1.grown hgrow (by have := hb1.size; omega) (fun k hk => (World.ownsRow.lt hown k hk).1)).setCell (p := ⟨b, 1, none⟩) hB _
def PenB (B b : Nat) (p : Pen) (w : World) : Prop := PenBe B b p.1.data.toList p.2 w
theorem PenB.below {B b : Nat} {p : Pen} {w w' : World} (h : PenB B b p w) (hb : Below w.heap.size w w') : PenB B b p w' := h.elim (fun h => .inl (h.below hb)) (fun h => .inr (h.below hb))
theorem PenB.lt {B b : Nat} {p : Pen} {w : World} (h : PenB B b p w) : b < w.heap.size := h.elim (fun h => h.lt) (fun h => h.lt)
theorem PenB.new (w : World) : PenB w.heap.size w.heap.size (ByteArray.empty, 0) (w.alloc (.cells #[.pointer none, .slice none 0 0, .int .i64 0] 129)) := .inl (PenIs.new _ _ w)
theorem PenB.err {B b : Nat} {p : Pen} {w : World} (h : PenB B b p w) : w.cell? ⟨b, 2, none⟩ = some (.int .i64 p.2) ∧ w.frozen? ⟨b, 2, none⟩ = false ∧ B ≤ b := by
  rcases h with ⟨hB, v, hb, _⟩ | ⟨hB, v, hb, _⟩
  · exact ⟨by rw [Lib.cell_of_heap hb]; rfl, Lib.frozen_of_heap hb 2, hB⟩
  · exact ⟨by rw [Lib.cell_of_heap hb]; rfl, Lib.frozen_of_heap hb 2, hB⟩
set_option maxHeartbeats 2000000 in
set_option maxRecDepth 100000 in
theorem Put_any (B b : Nat) (p : Pen) (s : ByteArray) (e : Int) (w : World) (h : PenB B b p w) (hlen : p.1.size + s.size ≤ 1000000) (hBw : B ≤ w.heap.size) :
    Calls Tryz.prog 95 #[.pointer (some ⟨b, 0, none⟩), .string s, .int .i64 e] w fun x w' => x = .returned (.tuple #[]) ∧ PenB B b (penPut p (s, e)) w' ∧ Below B w w' := by
  obtain ⟨c2, f2, hB⟩ := h.err
  have hpl : p.1.data.toList.length = p.1.size := by simp
  by_cases h0 : p.2 = 0
  · have HP := Lib.hid (penPut_ok (x := (s, e)) h0)
    rw [h0] at c2
    have hw2 : PenBe B b p.1.data.toList e (w.setCell ⟨b, 2, none⟩ (.int .i64 e)) := h.elim (fun h => .inl (h.wrong e)) (fun h => .inr (h.wrong e))
    have HW := Lib.hid (WriteS_any B b p.1.data.toList e s _ hw2 (by rw [hpl]; omega) (by simpa using hBw))
    have HB0 := Lib.hid ((Below.refl B w).setCell (p := ⟨b, 2, none⟩) hB (.int .i64 e))
    clear h hw2
    go_enter Tryz.func95, Tryz.ntmps95
    go_wp2_with fail
    refine HW.out.mono ?_
    rintro x w1 ⟨rfl, h1, hb⟩
    have HB := Lib.hid (HB0.out.trans hb)
    have HQ := Lib.hid h1
    clear hb h1
    go_wp2
    go_end0
    refine ⟨rfl, ?_, HB.out⟩
    rw [HP.out]
    refine .inr ?_
    have := HQ.out
    rw [show (p.1 ++ s).data.toList = p.1.data.toList ++ s.data.toList by simp]
    exact this
  · have HP := Lib.hid (penPut_bad (x := (s, e)) h0)
    have hne : (p.2 == 0) = false := by rw [beq_eq_false_iff_ne]; exact h0
    have H := Lib.hid h
    clear h h0
    go_enter Tryz.func95, Tryz.ntmps95
    go_wp2
    go_end0
    exact ⟨rfl, by rw [HP.out]; exact H.out, Below.refl _ _⟩
set_option maxHeartbeats 2000000 in
set_option maxRecDepth 100000 in
theorem PenString_any (B b : Nat) (p : Pen) (w : World) (h : PenB B b p w) (h0 : p.1.size ≠ 0) (hlen : p.1.size ≤ 1000000) :
    Calls Tryz.prog 94 #[.pointer (some ⟨b, 0, none⟩)] w fun x w' => x = .returned (.string p.1) ∧ Below B w w' := by
  obtain ⟨q, hB, v, hbk, hown, hne⟩ : ∃ q, PenAt B b q p.1.data.toList p.2 w := by
    rcases h with h | h
    · exact ⟨_, h⟩
    · exact ⟨_, h⟩
  have hs : p.1.data.toList.length = p.1.size := by simp
  have he : (⟨p.1.data.toList.toArray⟩ : ByteArray) = p.1 := ofL_of p.1
  generalize hl : p.1.data.toList = l at *
  generalize p.1 = s at *
  have hl0 : l.length ≠ 0 := by omega
  have hln : l ≠ [] := fun e => hl0 (by rw [e]; rfl)
  obtain ⟨g, cap, cur, rfl, hbg, hg, hnc, hcm, hcs, htake⟩ : ∃ g cap cur, v = .slice (some ⟨g, 0, none⟩) l.length cap ∧ B ≤ g ∧ w.heap[g]? = some (.cells cur 5 (0, 0)) ∧ l.length ≤ cap ∧ cap ≤ maxLen ∧ cur.size = cap * 1 ∧ cur.toList.take (l.length * 1) = l.map byteV := by
    rcases hown.2 with ⟨_, hz⟩ | ⟨g, cap, cur, hv, r⟩
    · exact absurd hz hl0
    · exact ⟨g, cap, cur, hv, r⟩
  have c1 : w.drew.cell? ⟨b, 1, none⟩ = some (.slice (some ⟨g, 0, none⟩) l.length cap) := by
    have : w.drew.heap[b]? = some (.cells #[q, .slice (some ⟨g, 0, none⟩) l.length cap, .int .i64 p.2] 129 (0, 0)) := hbk
    rw [Lib.cell_of_heap this]; rfl
  have hSD : (Builtin.unsafeSliceData_ #[24] 171 #[.slice (some ⟨g, 0, none⟩) l.length cap]).run Tryz.prog w.drew = .ok (.pointer (some ⟨g, 0, none⟩)) w.drew :=
    Lib.run_unsafeSliceData_row _ _ _ _ _ _ (by omega)
  have hUS : (Builtin.unsafeString_ #[171, 3] 9 #[.pointer (some ⟨g, 0, none⟩), .int .i64 l.length]).run Tryz.prog w.drew = .ok (.string ⟨l.toArray⟩) (w.drew.freeze ⟨g, 0, none⟩ l.length) := by
    refine Lib.run_unsafeString_row w.drew 171 3 9 5 Tryz.underlying171 cells_by g cur.size (by have hg' : w.drew.heap[g]? = some (.cells cur 5 (0, 0)) := hg; simp [World.shape?, hg']) l hln (by omega) (by unfold maxLen at hcm; omega) ?_
    intro j x hx
    exact World.ownsRow.cells hown (g := g) rfl j (.int .u8 x.toNat) (by simp [hx, byteV])
  rw [he] at hUS
  have HBF := Lib.hid (Lib.below_freeze (Below.drew (Below.refl B w)) (p := ⟨g, 0, none⟩) hbg l.length)
  clear hown hne hbk hg htake hl he h hs
  go_enter Tryz.func94, Tryz.ntmps94
  go_wp2
  go_region
  all_goals (go_wp2; go_ret; exact ⟨rfl, HBF.out⟩)
end Go.Proofs.YtaffgndickdbiaaGreatDoor
/-
  Heads as values; head.Write and its reference.
-/

namespace Go.Creel
set_option linter.unusedVariables false
set_option linter.unusedSimpArgs false
open Go.RowKit
theorem headText_typ {n : HeadN} (h : hasB headTypes n.typ = false) : headText n = (ByteArray.empty, 2) := if_pos h
theorem headText_bad {n : HeadN} (h : hasB headTypes n.typ = true) (hr : ¬ (headRef n).2 = 0) : headText n = (ByteArray.empty, (headRef n).2) := by
  unfold headText
  rw [if_neg (by rw [h]; simp), if_pos hr]
theorem headText_ok {n : HeadN} (h : hasB headTypes n.typ = true) (hr : (headRef n).2 = 0) : headText n = (sumIn (headRef n).1, 0) := by
  unfold headText
  rw [if_neg (by rw [h]; simp), if_neg (by simpa using hr)]
end Go.Creel
namespace Go.Proofs.YtaffgndickdbiaaGreatDoor
set_option linter.unusedVariables false
set_option linter.unusedSimpArgs false
open Go.Creel Go.RowKit

theorem one_conv (w : World) (c : UInt8) : (convert 24 9 (.slice (some ⟨w.heap.size, 0, none⟩) 1 1)).run Tryz.prog (w.alloc (.cells #[.int .u8 c.toNat] 5)) = .ok (.string (ofL [c])) (w.alloc (.cells #[.int .u8 c.toNat] 5)) := by
  have h := World.ownsRow_lit (base := w.heap.size) (e := 5) (size := 1) w #[.int .u8 c.toNat] 1 (Nat.le_refl _) (by decide) (by simp)
  exact OwnB.string (l := [c]) (t := 5) (B := w.heap.size) (cap := 1) h _ _ _ Tryz.underlying24 Tryz.underlying5 Tryz.underlying9
set_option maxRecDepth 100000 in
set_option maxHeartbeats 8000000 in
theorem HeadWrite_any (n : HeadN) (w : World) (hok : n.Ok maxLen) :
    Calls Tryz.prog 39 #[HeadN.val' n] w fun e w' => e = .returned (.tuple #[.string (headText n).1, .int .i64 (headText n).2]) ∧ Below w.heap.size w w' := by
  have HOK := Lib.hid hok
  clear hok
  have hix : decide (0 ≤ firstIdx ⟨#[48, 49, 50, 53, 120]⟩ n.typ) = hasB headTypes n.typ := idx_has headTypes n.typ
  have hbx := (Below.refl w.heap.size w).alloc (Nat.le_refl _) (headBox n 62)
  have HBX := Lib.hid hbx
  cases hh : hasB headTypes n.typ with
  | false =>
    have HF := Lib.hid (headText_typ hh)
    have hneg : firstIdx ⟨#[48, 49, 50, 53, 120]⟩ n.typ < 0 := by have := idx_none hh; show firstIdx headTypes n.typ < 0; omega
    clear hh hbx hix
    go_enter Tryz.func39, Tryz.ntmps39
    go_wp2_with (go_at_call 84; refine (IndexByte_any _ _ _).mono ?_; rintro e w' ⟨rfl, rfl⟩)
    go_ret2
    exact ⟨ret_si HF.out, HBX.out⟩
  | true =>
    rw [hh] at hix
    have hnn := of_decide_eq_true hix
    have hneg : ¬ firstIdx ⟨#[48, 49, 50, 53, 120]⟩ n.typ < 0 := by omega
    have HH := Lib.hid hh
    clear hh hix
    have HA0 := Lib.hid ((headAt_box w n 62).below ((Below.refl _ _).alloc (Nat.le_refl _) (.cells #[.pointer none, .slice none 0 0, .int .i64 0] 129)) (by simp))
    have HB0 := Lib.hid (hbx.alloc hbx.size (.cells #[.pointer none, .slice none 0 0, .int .i64 0] 129))
    have hp0 := PenB.new (w.alloc (headBox n 62))
    rw [show (w.alloc (headBox n 62)).heap.size = w.heap.size + 1 by simp] at hp0
    have HP0 := Lib.hid hp0
    have HLT := Lib.hid (Nat.le_succ w.heap.size)
    have HLU := Lib.hid (Nat.lt_succ_self w.heap.size)
    clear hbx hp0
    have i0 : ∀ w, (Instr.index 132 (.agg #[.int .i64 n.mode, .int .i64 n.uid, .int .i64 n.gid]) (.int .i64 0)).run Tryz.prog w = .ok (.int .i64 n.mode) w := fun _ => by kernel_rfl
    have i1 : ∀ w, (Instr.index 132 (.agg #[.int .i64 n.mode, .int .i64 n.uid, .int .i64 n.gid]) (.int .i64 1)).run Tryz.prog w = .ok (.int .i64 n.uid) w := fun _ => by kernel_rfl
    have i2 : ∀ w, (Instr.index 132 (.agg #[.int .i64 n.mode, .int .i64 n.uid, .int .i64 n.gid]) (.int .i64 2)).run Tryz.prog w = .ok (.int .i64 n.gid) w := fun _ => by kernel_rfl
    have i3 : ∀ w, (Instr.index 133 (.agg #[.int .i64 n.size, .int .i64 n.time]) (.int .i64 0)).run Tryz.prog w = .ok (.int .i64 n.size) w := fun _ => by kernel_rfl
    have i4 : ∀ w, (Instr.index 133 (.agg #[.int .i64 n.size, .int .i64 n.time]) (.int .i64 1)).run Tryz.prog w = .ok (.int .i64 n.time) w := fun _ => by kernel_rfl
    have hcv := one_conv
    go_enter Tryz.func39, Tryz.ntmps39
    go_upto_region 4 with (go_at_call 84; refine (IndexByte_any _ _ _).mono ?_; rintro e w' ⟨rfl, rfl⟩)
    generalize World.alloc (World.alloc w _) _ = w0 at *
    simp only [Nat.succ_eq_add_one] at HLT HLU
    generalize w.heap.size + 1 = B at *
    generalize hp : ((ByteArray.empty, 0) : Pen) = p0 at *
    have HPQ0 := Lib.hid hp
    have HS0 := Lib.hid (show p0.1.size ≤ 0 by rw [← hp]; exact Nat.le_refl _)
    clear hp hnn hneg
    clear HBX
    obtain ⟨h0, h1, h2, h3, h4, h5, h6, h7, h8, h9, h10⟩ := HA0.out
    go_wp2_with fail
    refine (FieldWrite_any n.nm 100 true _ HOK.out.nm (by unfold i64; omega)).mono ?_
    rintro e wm ⟨rfl, hb⟩
    have hxs := fieldText_le n.nm 100 true
    generalize hx : fieldText n.nm 100 true = x1 at *
    have HX1 := Lib.hid hx
    clear hx
    have HAm := Lib.hid (HA0.out.below hb HA0.out.lt)
    have HPm := Lib.hid (HP0.out.below hb)
    have HBm := Lib.hid (HB0.out.trans (hb.mono HB0.out.size))
    clear hb
    clear h0 h1 h2 h3 h4 h5 h6 h7 h8 h9 h10
    go_wp2_with fail
    refine (Put_any B B p0 x1.1 x1.2 _ HPm.out (by have := HS0.out; omega) (Nat.le_of_lt HPm.out.lt)).mono ?_
    rintro e w1 ⟨rfl, hq, hb⟩
    have HB1 := Lib.hid (HBm.out.trans (hb.mono HLT.out))
    have HA1 := Lib.hid (HAm.out.below hb HLU.out)
    have HS1 := Lib.hid (show (penPut p0 (x1.1, x1.2)).1.size ≤ 512 from penPut_le HS0.out hxs)
    have HP1 := Lib.hid hq
    clear hq hb hxs HAm HPm HBm
    generalize hp : penPut p0 (x1.1, x1.2) = p1 at *
    have HPQ1 := Lib.hid hp
    clear hp
    obtain ⟨h0, h1, h2, h3, h4, h5, h6, h7, h8, h9, h10⟩ := HA1.out
    go_wp2
    clear h0 h1 h2 h3 h4 h5 h6 h7 h8 h9 h10
    refine wp_loop_rounds 4 ?_
    rw [rounds_succ]
    go_wp2_with fail
    refine (OctWrite_any n.mode 8 _).mono ?_
    rintro e wm ⟨rfl, hb⟩
    have hxs := octText_le n.mode 8
    generalize hx : octText n.mode 8 = x2 at *
    have HX2 := Lib.hid hx
    clear hx
    have HAm := Lib.hid (HA1.out.below hb HA1.out.lt)
    have HPm := Lib.hid (HP1.out.below hb)
    have HBm := Lib.hid (HB1.out.trans (hb.mono HB1.out.size))
    clear hb
    go_wp2_with fail
    refine (Put_any B B p1 x2.1 x2.2 _ HPm.out (by have := HS1.out; omega) (Nat.le_of_lt HPm.out.lt)).mono ?_
    rintro e w2 ⟨rfl, hq, hb⟩
    have HB2 := Lib.hid (HBm.out.trans (hb.mono HLT.out))
    have HA2 := Lib.hid (HAm.out.below hb HLU.out)
    have HS2 := Lib.hid (show (penPut p1 (x2.1, x2.2)).1.size ≤ 1024 from penPut_le HS1.out hxs)
    have HP2 := Lib.hid hq
    clear hq hb hxs HAm HPm HBm
    generalize hp : penPut p1 (x2.1, x2.2) = p2 at *
    have HPQ2 := Lib.hid hp
    clear hp
    go_wp2
    rw [rounds_succ]
    go_wp2_with fail
    refine (OctWrite_any n.uid 8 _).mono ?_
    rintro e wm ⟨rfl, hb⟩
    have hxs := octText_le n.uid 8
    generalize hx : octText n.uid 8 = x3 at *
    have HX3 := Lib.hid hx
    clear hx
    have HAm := Lib.hid (HA2.out.below hb HA2.out.lt)
    have HPm := Lib.hid (HP2.out.below hb)
    have HBm := Lib.hid (HB2.out.trans (hb.mono HB2.out.size))
    clear hb
    go_wp2_with fail
    refine (Put_any B B p2 x3.1 x3.2 _ HPm.out (by have := HS2.out; omega) (Nat.le_of_lt HPm.out.lt)).mono ?_
    rintro e w3 ⟨rfl, hq, hb⟩
    have HB3 := Lib.hid (HBm.out.trans (hb.mono HLT.out))
    have HA3 := Lib.hid (HAm.out.below hb HLU.out)
    have HS3 := Lib.hid (show (penPut p2 (x3.1, x3.2)).1.size ≤ 1536 from penPut_le HS2.out hxs)
    have HP3 := Lib.hid hq
    clear hq hb hxs HAm HPm HBm
    generalize hp : penPut p2 (x3.1, x3.2) = p3 at *
    have HPQ3 := Lib.hid hp
    clear hp
    go_wp2
    rw [rounds_succ]
    go_wp2_with fail
    refine (OctWrite_any n.gid 8 _).mono ?_
    rintro e wm ⟨rfl, hb⟩
    have hxs := octText_le n.gid 8
    generalize hx : octText n.gid 8 = x4 at *
    have HX4 := Lib.hid hx
    clear hx
    have HAm := Lib.hid (HA3.out.below hb HA3.out.lt)
    have HPm := Lib.hid (HP3.out.below hb)
    have HBm := Lib.hid (HB3.out.trans (hb.mono HB3.out.size))
    clear hb
    go_wp2_with fail
    refine (Put_any B B p3 x4.1 x4.2 _ HPm.out (by have := HS3.out; omega) (Nat.le_of_lt HPm.out.lt)).mono ?_
    rintro e w4 ⟨rfl, hq, hb⟩
    have HB4 := Lib.hid (HBm.out.trans (hb.mono HLT.out))
    have HA4 := Lib.hid (HAm.out.below hb HLU.out)
    have HS4 := Lib.hid (show (penPut p3 (x4.1, x4.2)).1.size ≤ 2048 from penPut_le HS3.out hxs)
    have HP4 := Lib.hid hq
    clear hq hb hxs HAm HPm HBm
    generalize hp : penPut p3 (x4.1, x4.2) = p4 at *
    have HPQ4 := Lib.hid hp
    clear hp
    go_wp2
    rw [rounds_succ]
    obtain ⟨h0, h1, h2, h3, h4, h5, h6, h7, h8, h9, h10⟩ := HA4.out
    go_wp2
    clear h0 h1 h2 h3 h4 h5 h6 h7 h8 h9 h10
    refine wp_loop_rounds 3 ?_
    rw [rounds_succ]
    go_wp2_with fail
    refine (OctWrite_any n.size 12 _).mono ?_
    rintro e wm ⟨rfl, hb⟩
    have hxs := octText_le n.size 12
    generalize hx : octText n.size 12 = x5 at *
    have HX5 := Lib.hid hx
    clear hx
    have HAm := Lib.hid (HA4.out.below hb HA4.out.lt)
    have HPm := Lib.hid (HP4.out.below hb)
    have HBm := Lib.hid (HB4.out.trans (hb.mono HB4.out.size))
    clear hb
    go_wp2_with fail
    refine (Put_any B B p4 x5.1 x5.2 _ HPm.out (by have := HS4.out; omega) (Nat.le_of_lt HPm.out.lt)).mono ?_
    rintro e w5 ⟨rfl, hq, hb⟩
    have HB5 := Lib.hid (HBm.out.trans (hb.mono HLT.out))
    have HA5 := Lib.hid (HAm.out.below hb HLU.out)
    have HS5 := Lib.hid (show (penPut p4 (x5.1, x5.2)).1.size ≤ 2560 from penPut_le HS4.out hxs)
    have HP5 := Lib.hid hq
    clear hq hb hxs HAm HPm HBm
    generalize hp : penPut p4 (x5.1, x5.2) = p5 at *
    have HPQ5 := Lib.hid hp
    clear hp
    go_wp2
    rw [rounds_succ]
    go_wp2_with fail
    refine (OctWrite_any n.time 12 _).mono ?_
    rintro e wm ⟨rfl, hb⟩
    have hxs := octText_le n.time 12
    generalize hx : octText n.time 12 = x6 at *
    have HX6 := Lib.hid hx
    clear hx
    have HAm := Lib.hid (HA5.out.below hb HA5.out.lt)
    have HPm := Lib.hid (HP5.out.below hb)
    have HBm := Lib.hid (HB5.out.trans (hb.mono HB5.out.size))
    clear hb
    go_wp2_with fail
    refine (Put_any B B p5 x6.1 x6.2 _ HPm.out (by have := HS5.out; omega) (Nat.le_of_lt HPm.out.lt)).mono ?_
    rintro e w6 ⟨rfl, hq, hb⟩
    have HB6 := Lib.hid (HBm.out.trans (hb.mono HLT.out))
    have HA6 := Lib.hid (HAm.out.below hb HLU.out)
    have HS6 := Lib.hid (show (penPut p5 (x6.1, x6.2)).1.size ≤ 3072 from penPut_le HS5.out hxs)
    have HP6 := Lib.hid hq
    clear hq hb hxs HAm HPm HBm
    generalize hp : penPut p5 (x6.1, x6.2) = p6 at *
    have HPQ6 := Lib.hid hp
    clear hp
    go_wp2
    rw [rounds_succ]
    obtain ⟨h0, h1, h2, h3, h4, h5, h6, h7, h8, h9, h10⟩ := HA6.out
    have hb := (Below.refl w6.heap.size w6).alloc (Nat.le_refl _) (.cells #[.int .u8 n.typ.toNat] 5)
    have HAm := Lib.hid (HA6.out.below hb HA6.out.lt)
    have HPm := Lib.hid (HP6.out.below hb)
    have HBm := Lib.hid (HB6.out.trans (hb.mono HB6.out.size))
    clear hb
    have hxs : ((⟨#[32, 32, 32, 32, 32, 32, 32, 32]⟩ : ByteArray) ++ ofL [n.typ]).size ≤ 512 := by rw [ByteArray.size_append, ofL_size]; exact (by decide : 8 + 1 ≤ 512)
    have hz1 : (ofL [n.typ]).size = 1 := ofL_size _
    go_wp2_with fail
    clear h0 h1 h2 h3 h4 h5 h6 h7 h8 h9 h10
    refine (Put_any B B p6 ((⟨#[32, 32, 32, 32, 32, 32, 32, 32]⟩ : ByteArray) ++ ofL [n.typ]) 0 _ HPm.out (by have := HS6.out; omega) (Nat.le_of_lt HPm.out.lt)).mono ?_
    rintro e w7 ⟨rfl, hq, hb⟩
    have HB7 := Lib.hid (HBm.out.trans (hb.mono HLT.out))
    have HA7 := Lib.hid (HAm.out.below hb HLU.out)
    have HS7 := Lib.hid (show (penPut p6 (((⟨#[32, 32, 32, 32, 32, 32, 32, 32]⟩ : ByteArray) ++ ofL [n.typ]), 0)).1.size ≤ 3584 from penPut_le HS6.out hxs)
    have HP7 := Lib.hid hq
    clear hq hb hxs HAm HPm HBm
    generalize hp : penPut p6 (((⟨#[32, 32, 32, 32, 32, 32, 32, 32]⟩ : ByteArray) ++ ofL [n.typ]), 0) = p7 at *
    have HPQ7 := Lib.hid hp
    clear hp
    obtain ⟨h0, h1, h2, h3, h4, h5, h6, h7, h8, h9, h10⟩ := HA7.out
    go_wp2_with fail
    refine (FieldWrite_any n.lk 100 true _ HOK.out.lk (by unfold i64; omega)).mono ?_
    rintro e wm ⟨rfl, hb⟩
    have hxs := fieldText_le n.lk 100 true
    generalize hx : fieldText n.lk 100 true = x8 at *
    have HX8 := Lib.hid hx
    clear hx
    have HAm := Lib.hid (HA7.out.below hb HA7.out.lt)
    have HPm := Lib.hid (HP7.out.below hb)
    have HBm := Lib.hid (HB7.out.trans (hb.mono HB7.out.size))
    clear hb
    clear h0 h1 h2 h3 h4 h5 h6 h7 h8 h9 h10
    go_wp2_with fail
    refine (Put_any B B p7 x8.1 x8.2 _ HPm.out (by have := HS7.out; omega) (Nat.le_of_lt HPm.out.lt)).mono ?_
    rintro e w8 ⟨rfl, hq, hb⟩
    have HB8 := Lib.hid (HBm.out.trans (hb.mono HLT.out))
    have HA8 := Lib.hid (HAm.out.below hb HLU.out)
    have HS8 := Lib.hid (show (penPut p7 (x8.1, x8.2)).1.size ≤ 4096 from penPut_le HS7.out hxs)
    have HP8 := Lib.hid hq
    clear hq hb hxs HAm HPm HBm
    generalize hp : penPut p7 (x8.1, x8.2) = p8 at *
    have HPQ8 := Lib.hid hp
    clear hp
    have HAm := HA8
    have HPm := HP8
    have HBm := HB8
    have hxs : ((⟨#[117, 115, 116, 97, 114, 0, 48, 48]⟩ : ByteArray)).size ≤ 512 := by decide
    go_wp2_with fail
    refine (Put_any B B p8 (⟨#[117, 115, 116, 97, 114, 0, 48, 48]⟩ : ByteArray) 0 _ HPm.out (by have := HS8.out; omega) (Nat.le_of_lt HPm.out.lt)).mono ?_
    rintro e w9 ⟨rfl, hq, hb⟩
    have HB9 := Lib.hid (HBm.out.trans (hb.mono HLT.out))
    have HA9 := Lib.hid (HAm.out.below hb HLU.out)
    have HS9 := Lib.hid (show (penPut p8 ((⟨#[117, 115, 116, 97, 114, 0, 48, 48]⟩ : ByteArray), 0)).1.size ≤ 4608 from penPut_le HS8.out hxs)
    have HP9 := Lib.hid hq
    clear hq hb hxs HAm HPm HBm
    generalize hp : penPut p8 ((⟨#[117, 115, 116, 97, 114, 0, 48, 48]⟩ : ByteArray), 0) = p9 at *
    have HPQ9 := Lib.hid hp
    clear hp
    obtain ⟨h0, h1, h2, h3, h4, h5, h6, h7, h8, h9, h10⟩ := HA9.out
    go_wp2_with fail
    refine (FieldWrite_any n.user 32 false _ HOK.out.user (by unfold i64; omega)).mono ?_
    rintro e wm ⟨rfl, hb⟩
    have hxs := fieldText_le n.user 32 false
    generalize hx : fieldText n.user 32 false = x10 at *
    have HX10 := Lib.hid hx
    clear hx
    have HAm := Lib.hid (HA9.out.below hb HA9.out.lt)
    have HPm := Lib.hid (HP9.out.below hb)
    have HBm := Lib.hid (HB9.out.trans (hb.mono HB9.out.size))
    clear hb
    clear h0 h1 h2 h3 h4 h5 h6 h7 h8 h9 h10
    go_wp2_with fail
    refine (Put_any B B p9 x10.1 x10.2 _ HPm.out (by have := HS9.out; omega) (Nat.le_of_lt HPm.out.lt)).mono ?_
    rintro e w10 ⟨rfl, hq, hb⟩
    have HB10 := Lib.hid (HBm.out.trans (hb.mono HLT.out))
    have HA10 := Lib.hid (HAm.out.below hb HLU.out)
    have HS10 := Lib.hid (show (penPut p9 (x10.1, x10.2)).1.size ≤ 5120 from penPut_le HS9.out hxs)
    have HP10 := Lib.hid hq
    clear hq hb hxs HAm HPm HBm
    generalize hp : penPut p9 (x10.1, x10.2) = p10 at *
    have HPQ10 := Lib.hid hp
    clear hp
    obtain ⟨h0, h1, h2, h3, h4, h5, h6, h7, h8, h9, h10⟩ := HA10.out
    go_wp2_with fail
    refine (FieldWrite_any n.group 32 false _ HOK.out.group (by unfold i64; omega)).mono ?_
    rintro e wm ⟨rfl, hb⟩
    have hxs := fieldText_le n.group 32 false
    generalize hx : fieldText n.group 32 false = x11 at *
    have HX11 := Lib.hid hx
    clear hx
    have HAm := Lib.hid (HA10.out.below hb HA10.out.lt)
    have HPm := Lib.hid (HP10.out.below hb)
    have HBm := Lib.hid (HB10.out.trans (hb.mono HB10.out.size))
    clear hb
    clear h0 h1 h2 h3 h4 h5 h6 h7 h8 h9 h10
    go_wp2_with fail
    refine (Put_any B B p10 x11.1 x11.2 _ HPm.out (by have := HS10.out; omega) (Nat.le_of_lt HPm.out.lt)).mono ?_
    rintro e w11 ⟨rfl, hq, hb⟩
    have HB11 := Lib.hid (HBm.out.trans (hb.mono HLT.out))
    have HA11 := Lib.hid (HAm.out.below hb HLU.out)
    have HS11 := Lib.hid (show (penPut p10 (x11.1, x11.2)).1.size ≤ 5632 from penPut_le HS10.out hxs)
    have HP11 := Lib.hid hq
    clear hq hb hxs HAm HPm HBm
    generalize hp : penPut p10 (x11.1, x11.2) = p11 at *
    have HPQ11 := Lib.hid hp
    clear hp
    have HAm := HA11
    have HPm := HP11
    have HBm := HB11
    have hxs : ((⟨#[48, 48, 48, 48, 48, 48, 48, 0, 48, 48, 48, 48, 48, 48, 48, 0]⟩ : ByteArray)).size ≤ 512 := by decide
    go_wp2_with fail
    refine (Put_any B B p11 (⟨#[48, 48, 48, 48, 48, 48, 48, 0, 48, 48, 48, 48, 48, 48, 48, 0]⟩ : ByteArray) 0 _ HPm.out (by have := HS11.out; omega) (Nat.le_of_lt HPm.out.lt)).mono ?_
    rintro e w12 ⟨rfl, hq, hb⟩
    have HB12 := Lib.hid (HBm.out.trans (hb.mono HLT.out))
    have HA12 := Lib.hid (HAm.out.below hb HLU.out)
    have HS12 := Lib.hid (show (penPut p11 ((⟨#[48, 48, 48, 48, 48, 48, 48, 0, 48, 48, 48, 48, 48, 48, 48, 0]⟩ : ByteArray), 0)).1.size ≤ 6144 from penPut_le HS11.out hxs)
    have HP12 := Lib.hid hq
    clear hq hb hxs HAm HPm HBm
    generalize hp : penPut p11 ((⟨#[48, 48, 48, 48, 48, 48, 48, 0, 48, 48, 48, 48, 48, 48, 48, 0]⟩ : ByteArray), 0) = p12 at *
    have HPQ12 := Lib.hid hp
    clear hp
    obtain ⟨h0, h1, h2, h3, h4, h5, h6, h7, h8, h9, h10⟩ := HA12.out
    go_wp2_with fail
    refine (FieldWrite_any n.px 155 true _ HOK.out.px (by unfold i64; omega)).mono ?_
    rintro e wm ⟨rfl, hb⟩
    have hxs := fieldText_le n.px 155 true
    generalize hx : fieldText n.px 155 true = x13 at *
    have HX13 := Lib.hid hx
    clear hx
    have HAm := Lib.hid (HA12.out.below hb HA12.out.lt)
    have HPm := Lib.hid (HP12.out.below hb)
    have HBm := Lib.hid (HB12.out.trans (hb.mono HB12.out.size))
    clear hb
    clear h0 h1 h2 h3 h4 h5 h6 h7 h8 h9 h10
    go_wp2_with fail
    refine (Put_any B B p12 x13.1 x13.2 _ HPm.out (by have := HS12.out; omega) (Nat.le_of_lt HPm.out.lt)).mono ?_
    rintro e w13 ⟨rfl, hq, hb⟩
    have HB13 := Lib.hid (HBm.out.trans (hb.mono HLT.out))
    have HA13 := Lib.hid (HAm.out.below hb HLU.out)
    have HS13 := Lib.hid (show (penPut p12 (x13.1, x13.2)).1.size ≤ 6656 from penPut_le HS12.out hxs)
    have HP13 := Lib.hid hq
    clear hq hb hxs HAm HPm HBm
    generalize hp : penPut p12 (x13.1, x13.2) = p13 at *
    have HPQ13 := Lib.hid hp
    clear hp
    go_wp2_with fail
    refine (Repeat0_any 12 _ (by omega) (by omega)).mono ?_
    rintro e wm ⟨rfl, hb⟩
    have hxs : (zerosS (12 : Int).toNat).size ≤ 512 := by rw [zerosS_size]; decide
    generalize hx : zerosS (12 : Int).toNat = x14 at *
    have HX14 := Lib.hid hx
    clear hx
    have HAm := Lib.hid (HA13.out.below hb HA13.out.lt)
    have HPm := Lib.hid (HP13.out.below hb)
    have HBm := Lib.hid (HB13.out.trans (hb.mono HB13.out.size))
    clear hb
    go_wp2_with fail
    refine (Put_any B B p13 x14 0 _ HPm.out (by have := HS13.out; omega) (Nat.le_of_lt HPm.out.lt)).mono ?_
    rintro e w14 ⟨rfl, hq, hb⟩
    have HB14 := Lib.hid (HBm.out.trans (hb.mono HLT.out))
    have HA14 := Lib.hid (HAm.out.below hb HLU.out)
    have HS14 := Lib.hid (show (penPut p13 (x14, 0)).1.size ≤ 7168 from penPut_le HS13.out hxs)
    have HP14 := Lib.hid hq
    clear hq hb hxs HAm HPm HBm
    generalize hp : penPut p13 (x14, 0) = p14 at *
    have HPQ14 := Lib.hid hp
    clear hp
    have HPEN := Lib.hid (show headPen n = p14 by
      unfold headPen penAll pNum pRest pEnd
      simp only [List.foldl_append, List.foldl_cons, List.foldl_nil]
      rw [HX1.out, HX2.out, HX3.out, HX4.out, HX5.out, HX6.out, HX8.out, HX10.out, HX11.out, HX13.out, HPQ0.out]
      rw [show penPut p0 x1 = p1 from HPQ1.out, show penPut p1 x2 = p2 from HPQ2.out, show penPut p2 x3 = p3 from HPQ3.out, show penPut p3 x4 = p4 from HPQ4.out, show penPut p4 x5 = p5 from HPQ5.out, show penPut p5 x6 = p6 from HPQ6.out, show penPut p6 (ofL (eightB ++ [n.typ]), 0) = p7 from by rw [← ofL_append]; exact HPQ7.out, show penPut p7 x8 = p8 from HPQ8.out, show penPut p8 (ofL ustarB, 0) = p9 from HPQ9.out, show penPut p9 x10 = p10 from HPQ10.out, show penPut p10 x11 = p11 from HPQ11.out, show penPut p11 (ofL (zero8B ++ zero8B), 0) = p12 from HPQ12.out, show penPut p12 x13 = p13 from HPQ13.out, show penPut p13 (zerosS 12, 0) = p14 from by rw [show zerosS 12 = x14 from HX14.out]; exact HPQ14.out])
    have hlike := head_like n
    rw [HPEN.out] at hlike
    have HL2 := Lib.hid hlike.2
    have hl1 := hlike.1
    have HL1 := Lib.hid hl1
    obtain ⟨c2, _, _⟩ := HP14.out.err
    clear hlike hl1
    by_cases hz : p14.2 = 0
    · have HR0 := Lib.hid (HL1.out.symm.trans hz)
      have HF := Lib.hid (headText_ok HH.out HR0.out)
      have hsz : p14.1.size = 512 := by rw [HL2.out hz]; exact head_size n HR0.out
      rw [← HL2.out hz] at HF
      have HST := Lib.hid (PenString_any B B p14 w14 HP14.out (by omega) (by omega))
      rw [hz] at c2
      clear hz
      generalize p14.1 = s at *
      have hbd := headSum_bd hsz
      go_wp2_with fail
      refine HST.out.mono ?_
      rintro e w15 ⟨rfl, hb⟩
      have HB15 := Lib.hid (HB14.out.trans (hb.mono HLT.out))
      clear hb
      go_wp2_with fail
      refine (Sum_any s _ (by unfold maxLen; omega)).mono ?_
      rintro e w16 ⟨rfl, rfl⟩
      go_wp2_with fail
      refine (OctWrite_any (headSum s).1 7 _).mono ?_
      rintro e w17 ⟨rfl, hb⟩
      have HB17 := Lib.hid (HB15.out.trans (hb.mono HB15.out.size))
      have ho := octText_le (headSum s).1 7
      have HF2 := Lib.hid (show headText n = (s.extract 0 148 ++ (octText (headSum s).1 7).1 ++ (⟨#[32]⟩ : ByteArray) ++ s.extract 156 512, 0) from by have := HF.out; unfold sumIn at this; rw [hsz] at this; exact this)
      clear hb HF
      generalize octText (headSum s).1 7 = y at *
      go_wp2_with fail
      go_quiet (fail)
      go_wp2
      go_ret2
      exact ⟨ret_si HF2.out, below_drawN HB17.out⟩
    · have HF := Lib.hid (headText_bad HH.out (by rw [← HL1.out]; exact hz))
      rw [← HL1.out] at HF
      have hne : (p14.2 != 0) = true := by rw [bne_iff_ne]; exact hz
      clear hz
      generalize p14.2 = q at *
      go_wp2_with fail
      go_quiet (fail)
      go_wp2
      go_ret2
      exact ⟨ret_si HF.out, below_drawN HB14.out⟩
end Go.Proofs.YtaffgndickdbiaaGreatDoor
/-
  A box that leads to an own slice of records, younger than the box and all that was there.
-/
namespace Go.Creel
set_option linter.unusedVariables false
set_option linter.unusedSimpArgs false
open Go.RowKit
theorem grown_by_below {w w' : World} {row : Option Nat} (hb : Below w.heap.size w w') : w.grownBy w' row := ⟨hb.os, hb.tape, hb.output, hb.size, fun k hk _ => hb.block k hk⟩
theorem grown_then {w w1 w2 : World} {row : Option Nat} (h1 : w.grownBy w1 row) (h2 : w1.grownBy w2 row) : w.grownBy w2 row := by
  obtain ⟨a1, a2, a3, a4, a5⟩ := h1
  obtain ⟨b1, b2, b3, b4, b5⟩ := h2
  exact ⟨b1.trans a1, b2.trans a2, b3.trans a3, Nat.le_trans a4 b4, fun k hk hne => (b5 k (Nat.lt_of_lt_of_le hk a4) hne).trans (a5 k hk hne)⟩
structure RecG (tR tP : TypeId) (w0 w : World) (b : Nat) (cs : Array Value) (v : Value) (l : List Rec) : Prop where
  row : w.heap[b]? = some (.cells cs tP (0, 0))
  own : OwnRecs tR w w0.heap.size v l
  low : b < w0.heap.size
  gr : w0.grownBy w (some b)
section
variable {tR tP : TypeId} {w0 w w' w4 : World} {b : Nat} {cs : Array Value} {v v4 : Value} {l : List Rec}
theorem RecG.lt (h : RecG tR tP w0 w b cs v l) : b < w.heap.size := (Array.getElem?_eq_some_iff.1 h.row).1
theorem RecG.size (h : RecG tR tP w0 w b cs v l) : w0.heap.size ≤ w.heap.size := by obtain ⟨_, _, _, a4, _⟩ := h.gr; exact a4
theorem RecG.below (h : RecG tR tP w0 w b cs v l) (hb : Below w.heap.size w w') : RecG tR tP w0 w' b cs v l :=
  ⟨(hb.block b h.lt).trans h.row, h.own.below hb, h.low, grown_then h.gr (grown_by_below hb)⟩
theorem RecG.cell (h : RecG tR tP w0 w b cs v l) (j : Nat) : w.cell? ⟨b, j, none⟩ = cs[j]? := cell_of_row w b j cs tP (0, 0) h.row
theorem RecG.ne (h : RecG tR tP w0 w b cs v l) : v.ownBlock ≠ some b := fun e => by have := (World.ownsRow.lt h.own b e).1; have := h.low; omega
theorem RecG.row4 (h : RecG tR tP w0 w b cs v l) (hg : w.grownBy w4 v.ownBlock) : w4.heap[b]? = some (.cells cs tP (0, 0)) :=
  (by obtain ⟨a1, a2, a3, a4, a5⟩ := hg; exact (a5 b h.lt (fun e => h.ne e.symm)).trans h.row)
theorem RecG.cell4 (h : RecG tR tP w0 w b cs v l) (hg : w.grownBy w4 v.ownBlock) (j : Nat) : w4.cell? ⟨b, j, none⟩ = cs[j]? := cell_of_row w4 b j cs tP (0, 0) (h.row4 hg)
theorem RecG.free4 (h : RecG tR tP w0 w b cs v l) (hg : w.grownBy w4 v.ownBlock) (j : Nat) : w4.frozen? ⟨b, j, none⟩ = false := frozen_of_row w4 b j cs tP (h.row4 hg)
/-- what was there, but for the box -/
theorem RecG.other (h : RecG tR tP w0 w b cs v l) {k o : Nat} {u : Value} (hc : w0.cell? ⟨k, o, none⟩ = some u) (hne : k ≠ b) : w.cell? ⟨k, o, none⟩ = some u := by
  have hk := World.block_lt_of_cell? w0 _ hc
  obtain ⟨_, _, _, _, a5⟩ := h.gr
  have e := a5 k hk (fun e => hne (Option.some.inj e))
  unfold World.cell? at hc ⊢
  simp only at hc ⊢
  rw [e]; exact hc
theorem RecG.say (h : RecG tR tP w0 w b cs v l) (j : Nat) {r : Rec} (ho : w4.ownsRow w0.heap.size tR 2 v4 (l.length + 1) (l.flatMap Rec.cl ++ [r].flatMap Rec.cl)) (hg : w.grownBy w4 v.ownBlock) {cs' : Array Value} (e : cs.setIfInBounds j v4 = cs') :
    RecG tR tP w0 (w4.setCell ⟨b, j, none⟩ v4) b cs' v4 (l ++ [r]) := by
  subst e
  have own4 : OwnRecs tR w4 w0.heap.size v4 (l ++ [r]) := OwnRecs.app (m := [r]) ho
  have hne4 : v4.ownBlock ≠ some b := fun e => by have := (World.ownsRow.lt own4 b e).1; have := h.low; omega
  refine ⟨heap_setCell_same w4 b j _ tP _ (h.row4 hg), ownsRow_elsewhere _ own4 hne4, h.low, ?_⟩
  obtain ⟨a1, a2, a3, a4, a5⟩ := h.gr
  obtain ⟨b1, b2, b3, b4, b5⟩ := hg
  refine ⟨b1.trans a1, b2.trans a2, b3.trans a3, by simp only [World.setCell, Array.size_modify]; omega, fun k hk hne => ?_⟩
  rw [heap_setCell_other w4 ⟨b, j, none⟩ k v4 (fun e => hne (by rw [e]))]
  refine (b5 k (by omega) (fun e => ?_)).trans (a5 k hk hne)
  have := (World.ownsRow.lt h.own k e.symm).1
  omega
theorem RecG.bel {wb : World} (h : RecG tR tP w0 w b cs v l) (hb : Below wb.heap.size wb w0) (hl : wb.heap.size ≤ b) : Below wb.heap.size wb w :=
  hb.grown h.gr hb.size (fun k hk => by cases hk; exact hl)
end
theorem OwnRecs.mono {t : TypeId} {w : World} {B B' : Nat} {v : Value} {l : List Rec} (h : OwnRecs t w B v l) (hb : B' ≤ B) : OwnRecs t w B' v l := by
  rcases h.2 with ⟨rfl, h0⟩ | ⟨g, cap, cur, rfl, hbg, hg, hnc, hcm, hcs, htake⟩
  · exact ⟨h.1, .inl ⟨rfl, h0⟩⟩
  · exact ⟨h.1, .inr ⟨g, cap, cur, rfl, Nat.le_trans hb hbg, hg, hnc, hcm, hcs, htake⟩⟩
end Go.Creel
/-
  member.Write, walked.
-/
namespace Go.Creel
open Go.RowKit
/-- a slice of bytes of the call's own, and a number -/
def RetM (t : TypeId) (w : World) (p : List UInt8 × Int) (e : Ending) (w' : World) : Prop := ∃ v, e = .returned (.tuple #[v, .int .i64 p.2]) ∧ OwnM t w' w.heap.size v p.1 ∧ Below w.heap.size w w'
theorem EntAt.data {w : World} {b : Nat} {x : Ent} (h : EntAt w b 0 x) : w.cell? ⟨b, 10, none⟩ = some (.slice x.da x.data.length x.dcap) := h.zero.2.2.2.2.2.2.2.2.2.2
theorem OwnM.keep {t : TypeId} {w w' : World} {B : Nat} {v : Value} {l : List UInt8} {row : Option Nat} (h : OwnM t w B v l) (hg : w.grownBy w' row) (hr : ∀ k, row = some k → k < B) : OwnM t w' B v l := by
  rcases h with h | ⟨g, cap, cur, lo, hi, h1, h2, h3, h4⟩
  · exact .inl h
  · obtain ⟨_, _, _, _, a5⟩ := hg
    refine .inr ⟨g, cap, cur, lo, hi, h1, h2, (a5 g (Array.getElem?_eq_some_iff.1 h3).1 (fun e => ?_)).trans h3, h4⟩
    have := hr g e.symm
    omega
end Go.Creel
namespace Go.Proofs.YtaffgndickdbiaaGreatDoor
set_option linter.unusedVariables false
set_option linter.unusedSimpArgs false
open Go.Creel Go.RowKit
theorem conv_str (w : World) (s : ByteArray) : (convert 9 24 (.string s)).run Tryz.prog w = .ok (.slice (some ⟨w.heap.size, 0, none⟩) s.size (grownCap w s.size 0 5)) (Lib.bytesWorld w 5 s) :=
  Lib.run_convert_string_bytes w _ _ _ s Tryz.underlying9 Tryz.underlying24 Tryz.underlying5
theorem PaxHeadW_any (n : Nat) (w : World) (hn : n ≤ 10000) :
    Calls Tryz.prog 39 #[.agg #[.string ⟨#[64, 112, 97, 120]⟩, .string ⟨#[]⟩, .string ⟨#[]⟩, .int .i64 0, .int .i64 0, .int .i64 0, .int .i64 n, .int .i64 0, .int .u8 120, .string ⟨#[]⟩, .string ⟨#[]⟩]] w fun e w' => e = .returned (.tuple #[.string (headText (paxHead n)).1, .int .i64 (headText (paxHead n)).2]) ∧ Below w.heap.size w w' :=
  HeadWrite_any (paxHead n) w (by constructor <;> simp only [paxHead] <;> first | decide | (unfold i64; omega))
set_option maxRecDepth 100000 in
set_option maxHeartbeats 1000000 in
theorem MemW_ok (x : Ent) (w : World) (hM : MaxOk w) (hx : x.Ok maxLen w) (hE : entFault x = 0) (hT : Pow10 w) :
    Calls Tryz.prog 11 #[x.val] w (RetM 5 w (memB x, 0)) := by
  obtain ⟨i0, hi, hz0, hz1, hz2⟩ := info_parts info_byte2
  have HI := Lib.hid (And.intro hi (And.intro hz0 (And.intro hz1 hz2)))
  have HR := Lib.hid (entRight hE)
  have HBX := Lib.hid ((Below.refl w.heap.size w).alloc (Nat.le_refl _) (.cells #[.string x.path, .int .i64 x.kind, .string x.target, .int .i64 x.mt.mode, .int .i64 x.mt.uid, .int .i64 x.mt.gid, .string x.mt.user, .string x.mt.group, .int .i64 x.mt.second, .int .i64 x.mt.nano, .slice x.da x.data.length x.dcap] 26))
  have HEB := Lib.hid (entAt_box w x 26)
  have HPR := Lib.hid (fun W hb => PlanRight_any x W (hM.below (w' := W) hb) hx.path hx.target hx.mt (by obtain ⟨_, _, _, _, _, h, _⟩ := hx.data; exact h) hx.kind (Nat.le_refl _))
  rw [hE] at HPR
  have HXD := Lib.hid hx.data
  have HT := Lib.hid hT
  have HPK := Lib.hid (fun W h => Pack_any x W HR h)
  have HSM := Lib.hid (memRecs_small HR.out)
  have HMH := Lib.hid (memHead_small HR.out)
  have HLN := Lib.hid (rl7_len x)
  rw [rl7_eq] at HLN
  have hdl := HR.out.data
  have HF : Hid (∀ P M D, memPre (memRecs x) = P → (headText (memHead x)).1.data.toList = M → padFill x.data = D → memB x = (P ++ M) ++ D) := Lib.hid (fun P M D h1 h2 h3 => by unfold memB memOwn; rw [h1, h2, h3, List.append_assoc])
  clear hM hx hE hT hi hz0 hz1 hz2
  go_enter Tryz.func11, Tryz.ntmps11
  go_wp2_with fail
  refine (HPR.out _ HBX.out).mono ?_
  rintro e w1 ⟨rfl, hb⟩
  have HB1 := Lib.hid (HBX.out.trans (hb.mono HBX.out.size))
  have HE1 := Lib.hid (HEB.out.below hb)
  clear hb
  obtain ⟨h0, h1, h2, h3, h4, h5, h6, h7, h8, h9, h10⟩ := HE1.out.zero
  go_wp2_with fail
  refine (HPK.out _ (HT.out.below HB1.out)).mono ?_
  rintro e w2 ⟨b, v, rfl, s⟩
  have S := Lib.hid s
  have HB2 := Lib.hid (HB1.out.trans (S.out.bel.mono HB1.out.size))
  have HE2 := Lib.hid (HE1.out.below S.out.bel)
  clear s h0 h1 h2 h3 h4 h5 h6 h7 h8 h9 h10
  generalize memHead x = mh at *
  generalize memRecs x = l at *
  obtain ⟨a, cp, hv, hcp, _⟩ := OwnRecs.form2 S.out.own
  have c11 : w2.cell? ⟨b, 11, none⟩ = some v := S.out.cell 11
  subst hv
  go_upto_region 6 with fail
  go_cut [25] from 20 to 25 (fun u wy => ∃ q, u = .bool q ∧ Hid (q = decide (0 < l.length)) ∧ wy = w2)
  case first =>
    have hdd : decide ((0 : Int) < (l.length : Int)) = decide (0 < l.length) := by rw [decide_eq_decide]; omega
    go_wp2
    go_meet
    exact ⟨_, rfl, Lib.hid (by first | rfl | exact hdd | (rw [hdd])), rfl⟩
  case rest =>
  obtain ⟨q, rfl, HQ, rfl⟩ := hcut
  obtain ⟨w2, rfl⟩ : ∃ W : World, W = wc := ⟨_, rfl⟩
  go_step
  go_cut [6, 7, 8, 9, 10, 25] from 26 to 47 (fun u6 _ _ _ _ u25 wy => u25 = .bool q ∧ Hid (OwnM 5 wy w2.heap.size u6 (memPre l)) ∧ Hid (Below w2.heap.size w2 wy))
  case first =>
    cases q with
    | false =>
      have hl0 : l.length = 0 := by have := of_decide_eq_false HQ.out.symm; omega
      have HPN := Lib.hid (memPre_no hl0)
      clear hl0
      go_wp2
      go_meet
      exact ⟨rfl, Lib.hid (by rw [HPN.out]; exact OwnM.nil _ _ _), Lib.hid (Below.refl _ _)⟩
    | true =>
      have hl0 : ¬ l.length = 0 := by have := of_decide_eq_true HQ.out.symm; omega
      have HPY := Lib.hid (memPre_yes hl0)
      have HSL := Lib.hid (OwnRecs.slice S.out.own (by have := HLN.out; unfold maxLen; omega) HSM.out)
      have hpl := paxWrite_le l
      have HPW := Lib.hid (fun w h hT => PaxW_any (.slice a l.length cp) l w h hT)
      have hht := headText_le (paxHead (paxWrite l).1.size)
      clear hl0
      go_wp2_with fail
      refine (HPW.out _ HSL.out (HT.out.below HB2.out)).mono ?_
      rintro e w3 ⟨rfl, hb⟩
      have HB3 := Lib.hid hb
      clear hb HPW HSL
      generalize (paxWrite l).1 = pt at *
      generalize (paxWrite l).2 = pe at *
      go_wp2_with fail
      refine (PaxHeadW_any pt.size _ (by omega)).mono ?_
      rintro e w3' ⟨rfl, hb⟩
      have HB9 := Lib.hid (HB3.out.trans (hb.mono HB3.out.size))
      clear hb HB3
      generalize (headText (paxHead pt.size)).1 = ht at *
      generalize (headText (paxHead pt.size)).2 = he at *
      have hcv := fun w => conv_str w pt
      have HBD : Hid (([] : List UInt8).length + ht.data.toList.length ≤ 140737488355328) := Lib.hid (by rw [toL_len]; simp; omega)
      go_wp2_with (at_builtin; refine wpList_appM rfl (.tmp 41) (.tmp 42) 24 9 rfl _ _ rfl rfl (fun ty => app_m _ 24 9 5 ty i0 Tryz.underlying24 HI.out.1 HI.out.2.1 HI.out.2.2.1 HI.out.2.2.2 (OwnM.nil 5 _ w2.heap.size) (src_str Tryz.underlying9 ht) HBD.out HB9.out.size) ?_; intro v1 w4 ho hg; have HO4 := Lib.hid ho; have HB4 := Lib.hid (OwnM.grown HB9.out hg (OwnM.nil 5 _ w2.heap.size) HB9.out.size (Nat.le_refl _)); clear ho hg)
      have HCV := Lib.hid (conv_below w4 5 pt)
      have HCM := Lib.hid (OwnM.conv w4 5 pt (by unfold maxLen; omega))
      generalize grownCap w4 pt.size 0 5 = gc at *
      generalize Lib.bytesWorld w4 5 pt = w5 at *
      refine (Fill_any (N := maxLen) _ pt.data.toList w5 (HCM.out.slice (by rw [toL_len]; unfold maxLen; omega)) (by rw [toL_len]; omega)).mono ?_
      rintro e w6 ⟨v6, rfl, ho, hb⟩
      have HO6 := Lib.hid (OwnBs.marked ho)
      have HB6 := Lib.hid ((HB4.out.trans (HCV.out.mono HB4.out.size)).trans (hb.mono (Nat.le_trans HB4.out.size HCV.out.size)))
      have HO5 := Lib.hid ((HO4.out.below HCV.out).below hb)
      clear ho hb
      have hpf := padFill_le pt.data.toList
      rw [toL_len] at hpf
      have HBE : Hid (([] ++ ht.data.toList : List UInt8).length + (padFill pt.data.toList).length ≤ 140737488355328) := Lib.hid (by rw [List.nil_append, toL_len]; omega)
      go_wp2_with (at_builtin; refine wpList_appM rfl (.tmp 43) (.tmp 46) 24 24 rfl _ _ rfl rfl (fun ty => app_m _ 24 24 5 ty i0 Tryz.underlying24 HI.out.1 HI.out.2.1 HI.out.2.2.1 HI.out.2.2.2 HO5.out (src_bytes (N := maxLen) Tryz.underlying24 (HO6.out.slice (by unfold maxLen; omega))) HBE.out HB6.out.size) ?_; intro v7 w7 ho hg; have HO7 := Lib.hid ho; have HB7 := Lib.hid (OwnM.grown HB6.out hg HO5.out HB6.out.size (Nat.le_refl _)); clear ho hg)
      go_meet
      exact ⟨rfl, Lib.hid (by rw [HPY.out]; exact HO7.out), HB7⟩
  case rest =>
  obtain ⟨rfl, HOP, HBP⟩ := hcut
  obtain ⟨w3, rfl⟩ : ∃ W : World, W = wc := ⟨_, rfl⟩
  obtain ⟨vo, rfl⟩ : ∃ V : Value, V = u6 := ⟨_, rfl⟩
  have S3 := Lib.hid (S.out.below HBP.out)
  have HB3 := HBP
  have HO3 := HOP
  have HPL := Lib.hid (memPre_le l)
  have HF2 := Lib.hid (fun M D => HF.out (memPre l) M D rfl)
  clear S HOP HBP HE1 HEB HB1 c11 HF
  generalize memPre l = P at *
  have c0 : w3.cell? ⟨b, 0, none⟩ = some (.string mh.nm) := S3.out.cell 0
  have c1 : w3.cell? ⟨b, 1, none⟩ = some (.string mh.px) := S3.out.cell 1
  have c2 : w3.cell? ⟨b, 2, none⟩ = some (.string mh.lk) := S3.out.cell 2
  have c3 : w3.cell? ⟨b, 3, none⟩ = some (.int .i64 mh.mode) := S3.out.cell 3
  have c4 : w3.cell? ⟨b, 4, none⟩ = some (.int .i64 mh.uid) := S3.out.cell 4
  have c5 : w3.cell? ⟨b, 5, none⟩ = some (.int .i64 mh.gid) := S3.out.cell 5
  have c6 : w3.cell? ⟨b, 6, none⟩ = some (.int .i64 mh.size) := S3.out.cell 6
  have c7 : w3.cell? ⟨b, 7, none⟩ = some (.int .i64 mh.time) := S3.out.cell 7
  have c8 : w3.cell? ⟨b, 8, none⟩ = some (.int .u8 mh.typ.toNat) := S3.out.cell 8
  have c9 : w3.cell? ⟨b, 9, none⟩ = some (.string mh.user) := S3.out.cell 9
  have c10 : w3.cell? ⟨b, 10, none⟩ = some (.string mh.group) := S3.out.cell 10
  go_wp2_with fail
  refine (HeadWrite_any mh _ HMH.out).mono ?_
  rintro e w4 ⟨rfl, hb⟩
  have HB4 := Lib.hid (HB3.out.trans (hb.mono HB3.out.size))
  have HE4 := Lib.hid (HE2.out.below HB4.out)
  have HO4 := Lib.hid (HO3.out.below hb)
  have hht := headText_le mh
  have HF3 := Lib.hid (fun D => HF2.out _ D rfl)
  clear hb c0 c1 c2 c3 c4 c5 c6 c7 c8 c9 c10 S3 HO3 HB3 HF2
  generalize (headText mh).1 = ht at *
  generalize (headText mh).2 = he at *
  have HXD4 := Lib.hid (fun W (hb : Below w2.heap.size w2 W) => HXD.out.below (w' := W) (fun _ _ h => h) (HB2.out.trans (hb.mono HB2.out.size)))
  have hpd := padFill_le x.data
  have hpl := HPL.out
  have HBD : Hid (P.length + ht.data.toList.length ≤ 140737488355328) := Lib.hid (by rw [toL_len]; omega)
  have HBE : Hid ((P ++ ht.data.toList).length + (padFill x.data).length ≤ 140737488355328) := Lib.hid (by rw [List.length_append, toL_len]; omega)
  have HBD4 := Lib.hid (HB4.out.drew)
  have HOD4 := Lib.hid (HO4.out.below (Below.refl _ _).drew)
  have HED4 := Lib.hid (HE4.out.below (Below.refl _ _).drew)
  go_upto_region 11 with fail
  refine wp_region_noPanic ?_
  refine wp_region_held_drew (S := fun w' => w'.cell? ⟨w.heap.size, 10, none⟩ = some (.slice x.da x.data.length x.dcap)) (by kernel_rfl) HED4.out.data (fun hHeld => ?_)
  refine wpAnyH_take (i := 0) (v := _) rfl (by kernel_rfl) (by kernel_rfl) (by kernel_rfl) (fun _ _ _ h => h) (Or.inl ⟨by rfl, fun w5 hSw => (by (try dsimp only at hSw); go_simp; try with_reducible rfl)⟩) hHeld ?_
  try simp only [List.getElem_toArray, List.getElem_cons_succ, List.getElem_cons_zero, Act.put, List.setIfInBounds_toArray, List.set_cons_zero, List.set_cons_succ]
  refine wpAnyH_take (i := 1) (v := _) rfl (by kernel_rfl) (by kernel_rfl) (by kernel_rfl) (fun _ _ _ h => h) (Or.inl ⟨by rfl, fun w5 hSw => (by (try dsimp only at hSw); go_simp; try with_reducible rfl)⟩) hHeld ?_
  try simp only [List.getElem_toArray, List.getElem_cons_succ, List.getElem_cons_zero, Act.put, List.setIfInBounds_toArray, List.set_cons_zero, List.set_cons_succ]
  refine wpAnyH_take (i := 3) (v := _) rfl (by kernel_rfl) (by kernel_rfl) (by kernel_rfl) (fun _ _ _ h => h) (Or.inl ⟨by rfl, fun w5 hSw => (by (try dsimp only at hSw); go_simp; try with_reducible rfl)⟩) hHeld ?_
  try simp only [List.getElem_toArray, List.getElem_cons_succ, List.getElem_cons_zero, Act.put, List.setIfInBounds_toArray, List.set_cons_zero, List.set_cons_succ]
  refine wpAnyH_take (i := 4) (v := _) rfl (by kernel_rfl) (by kernel_rfl) (by kernel_rfl) (fun _ _ _ h => h) (Or.inl ⟨by rfl, fun w5 hSw => (by (try dsimp only at hSw); go_simp; try with_reducible rfl)⟩) hHeld ?_
  try simp only [List.getElem_toArray, List.getElem_cons_succ, List.getElem_cons_zero, Act.put, List.setIfInBounds_toArray, List.set_cons_zero, List.set_cons_succ]
  refine wpAnyH_ready (rs := [2]) (by kernel_rfl) (by simp) ?_
  refine AllReadyH.cons rfl (fun K5 hK5 => ?_) AllReadyH.nil
  refine step_appM (w := w4.drew) rfl (.tmp 56) (.tmp 57) 24 9 rfl vo (.string ht) (by simp [Act.eval, Act.put]) (by simp [Act.eval, Act.put]) (fun ty => app_m _ 24 9 5 ty i0 Tryz.underlying24 HI.out.1 HI.out.2.1 HI.out.2.2.1 HI.out.2.2.2 HOD4.out (src_str Tryz.underlying9 ht) HBD.out HBD4.out.size) ?_
  intro v5 w5 ho hg
  have HO5 := Lib.hid ho
  have HB5 := Lib.hid (OwnM.grown HBD4.out hg HOD4.out HBD4.out.size (Nat.le_refl _))
  clear ho hg
  refine hK5.out _ _ ((HE2.out.below HB5.out).data) (fun hHeld => ?_)
  clear hK5 K5
  try simp only [List.getElem_toArray, List.getElem_cons_succ, List.getElem_cons_zero, Act.put, List.setIfInBounds_toArray, List.set_cons_zero, List.set_cons_succ]
  refine wpAnyH_ready (rs := [5]) (by kernel_rfl) (by simp) ?_
  refine AllReadyH.cons rfl (fun K5 hK5 => ?_) AllReadyH.nil
  rw [if_pos (by rfl)]
  go_wp2_with (go_at_call 40; refine (Fill_any (N := maxLen) _ x.data _ (HXD4.out _ HB5.out) (by omega)).mono ?_; rintro e w6 ⟨v6, rfl, ho, hb⟩)
  have HO6 := Lib.hid (OwnBs.marked ho)
  have HB6 := Lib.hid (HB5.out.trans (hb.mono HB5.out.size))
  have HO5b := Lib.hid (HO5.out.below hb)
  clear ho hb
  refine hK5.out _ _ ((HE2.out.below HB6.out).data) (fun hHeld => ?_)
  clear hK5 K5
  try simp only [List.getElem_toArray, List.getElem_cons_succ, List.getElem_cons_zero, Act.put, List.setIfInBounds_toArray, List.set_cons_zero, List.set_cons_succ]
  refine wpAnyH_ready (rs := [6]) (by kernel_rfl) (by simp) ?_
  refine AllReadyH.cons rfl (fun K5 hK5 => ?_) AllReadyH.nil
  refine step_appM (w := w6) rfl (.tmp 58) (.tmp 61) 24 24 rfl v5 v6 (by simp [Act.eval, Act.put]) (by simp [Act.eval, Act.put]) (fun ty => app_m _ 24 24 5 ty i0 Tryz.underlying24 HI.out.1 HI.out.2.1 HI.out.2.2.1 HI.out.2.2.2 HO5b.out (src_bytes (N := maxLen) Tryz.underlying24 (HO6.out.slice (by unfold maxLen; omega))) HBE.out HB6.out.size) ?_
  intro v7 w7 ho hg
  have HO7 := Lib.hid ho
  have HB7 := Lib.hid (OwnM.grown HB6.out hg HO5b.out HB6.out.size (Nat.le_refl _))
  clear ho hg
  refine hK5.out _ _ ((HE2.out.below HB7.out).data) (fun hHeld => ?_)
  clear hK5 K5
  try simp only [List.getElem_toArray, List.getElem_cons_succ, List.getElem_cons_zero, Act.put, List.setIfInBounds_toArray, List.set_cons_zero, List.set_cons_succ]
  refine wpAnyH_take (i := 7) (v := _) rfl (by kernel_rfl) (by kernel_rfl) (by kernel_rfl) (fun _ _ _ h => h) (Or.inl ⟨by rfl, fun w5 hSw => (by (try dsimp only at hSw); go_simp; try with_reducible rfl)⟩) hHeld ?_
  try simp only [List.getElem_toArray, List.getElem_cons_succ, List.getElem_cons_zero, Act.put, List.setIfInBounds_toArray, List.set_cons_zero, List.set_cons_succ]
  refine wpAnyH_take (i := 8) (v := _) rfl (by kernel_rfl) (by kernel_rfl) (by kernel_rfl) (fun _ _ _ h => h) (Or.inl ⟨by rfl, fun w5 hSw => (by (try dsimp only at hSw); go_simp; try with_reducible rfl)⟩) hHeld ?_
  try simp only [List.getElem_toArray, List.getElem_cons_succ, List.getElem_cons_zero, Act.put, List.setIfInBounds_toArray, List.set_cons_zero, List.set_cons_succ]
  refine wpAnyH_done (by kernel_rfl) ?_ _
  refine NoPanic.normal ?_
  go_wp2
  go_ret2
  exact ⟨_, rfl, by rw [HF3.out _ rfl]; exact HO7.out.mono HB2.out.size, HB2.out.trans (HB7.out.mono HB2.out.size)⟩
set_option maxRecDepth 100000 in
set_option maxHeartbeats 1000000 in
theorem MemW_any (x : Ent) (w : World) (hM : MaxOk w) (hx : x.Ok maxLen w) (hT : Pow10 w) :
    Calls Tryz.prog 11 #[x.val] w (RetM 5 w (memBytes x)) := by
  by_cases hE : entFault x = 0
  · rw [memBytes_ok hE]
    exact MemW_ok x w hM hx hE hT
  · rw [memBytes_bad hE]
    have HBX := Lib.hid ((Below.refl w.heap.size w).alloc (Nat.le_refl _) (.cells #[.string x.path, .int .i64 x.kind, .string x.target, .int .i64 x.mt.mode, .int .i64 x.mt.uid, .int .i64 x.mt.gid, .string x.mt.user, .string x.mt.group, .int .i64 x.mt.second, .int .i64 x.mt.nano, .slice x.da x.data.length x.dcap] 26))
    have HPR := Lib.hid (fun W hb => PlanRight_any x W (hM.below (w' := W) hb) hx.path hx.target hx.mt (by obtain ⟨_, _, _, _, _, h, _⟩ := hx.data; exact h) hx.kind (Nat.le_refl _))
    generalize entFault x = q at *
    have hq : (q != 0) = true := by rw [bne_iff_ne]; exact hE
    clear hM hx hE hT
    go_enter Tryz.func11, Tryz.ntmps11
    go_wp2_with fail
    refine (HPR.out _ HBX.out).mono ?_
    rintro e w1 ⟨rfl, hb⟩
    have HB1 := Lib.hid (HBX.out.trans (hb.mono HBX.out.size))
    clear hb
    go_wp2
    go_ret2
    exact ⟨_, rfl, OwnM.nil _ _ _, HB1.out⟩
end Go.Proofs.YtaffgndickdbiaaGreatDoor
