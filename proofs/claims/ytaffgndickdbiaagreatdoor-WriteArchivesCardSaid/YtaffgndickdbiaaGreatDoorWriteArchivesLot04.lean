/-
  Texts of this proof, one behind the other: PadCut, PadCutRef, ArcL, ArcR, MaxOk, Laid, WriteArchivesW.
-/
import Derived.Deep.RegionLaw
import Derived.Test.YtaffgndickdbiaaGreatDoorPieces
import Derived.Shaped
import Derived.Test.YtaffgndickdbiaaGreatDoorRows
import Derived.Deep.DeepHandedRow
import Derived.Lib.LaidTab
import Derived.Test.YtaffgndickdbiaaGreatDoorSame
import Derived.Test.YtaffgndickdbiaaGreatDoorWriteArchivesLot03
/-
  pad.Cut, pad.End, pad.Ends and the reference of pad.Cut.
-/
namespace Go.Creel
set_option linter.unusedVariables false
open Go.RowKit
def zeroB (l : List UInt8) (n k : Nat) : Prop := ∀ i, n ≤ i → i < k → bl l i = 0
open Classical in
noncomputable def padCut (l : List UInt8) (n : Int) : List UInt8 × List UInt8 × Int :=
  if n < 0 ∨ 8589934591 < n then ([], [], 4)
  else if l.length < (n.toNat + 511) / 512 * 512 then ([], [], 7)
  else if zeroB l n.toNat ((n.toNat + 511) / 512 * 512) then (l.take n.toNat, l.drop ((n.toNat + 511) / 512 * 512), 0)
  else ([], [], 3)
theorem slice_sub {N : Nat} {w : World} {b off cap : Nat} {l : List UInt8} (hle : l.length ≤ cap) (hm : cap ≤ maxLen) (hN : l.length ≤ N) (hc : ∀ i, i < l.length → w.cell? ⟨b, off + i, none⟩ = some (.int .u8 (bl l i)))
    (i j : Nat) (hj : i + j ≤ l.length) : SliceC N 1 ByteC w [.slice (some ⟨b, off + i, none⟩) j (cap - i)] ((l.drop i).take j) := by
  have hlen : ((l.drop i).take j).length = j := by simp; omega
  refine ⟨some ⟨b, off + i, none⟩, cap - i, by rw [hlen], by omega, by omega, by omega, (fun h => by cases h), fun _ => ⟨b, off + i, rfl, fun m hm => ?_⟩⟩
  rw [hlen] at hm
  refine ⟨[byteV ((l.drop i).take j)[m]], rfl, fun q hq => ?_, rfl⟩
  obtain rfl : q = 0 := by omega
  have := hc (i + m) (by omega)
  rw [show off + i + m * 1 + 0 = off + (i + m) by omega, this]
  simp [byteV, bl, List.getD_eq_getElem?_getD, List.getElem?_eq_getElem (show i + m < l.length by omega)]
theorem sub_zero {l : List UInt8} {n k : Nat} (hk : k ≤ l.length) : (∀ x ∈ (l.drop n).take (k - n), x = 0) ↔ zeroB l n k := by
  constructor
  · intro h i h1 h2
    have hx : l[i]'(by omega) ∈ (l.drop n).take (k - n) := by
      rw [List.mem_iff_getElem]
      refine ⟨i - n, by simp; omega, ?_⟩
      simp [show n + (i - n) = i by omega]
    simp [bl, List.getD_eq_getElem?_getD, List.getElem?_eq_getElem (show i < l.length by omega), h _ hx]
  · intro h x hx
    obtain ⟨i, hi, rfl⟩ := List.getElem_of_mem hx
    have hi' := hi
    simp at hi'
    have := h (n + i) (by omega) (by omega)
    simp [bl, List.getD_eq_getElem?_getD, List.getElem?_eq_getElem (show n + i < l.length by omega)] at this
    simp
    exact UInt8.toNat_inj.1 this
/-- two new slices of bytes and a number -/
def RetBB (t : TypeId) (w : World) (p : List UInt8 × List UInt8 × Int) (e : Ending) (w' : World) : Prop :=
  ∃ v u, e = .returned (.tuple #[v, u, .int .i64 p.2.2]) ∧ OwnBs t w' w.heap.size v p.1 ∧ OwnBs t w' w.heap.size u p.2.1 ∧ Below w.heap.size w w'
theorem RetBB.err {t : TypeId} {w w' : World} {p : List UInt8 × List UInt8 × Int} {n : Int} (h : p = ([], [], n)) (hb : Below w.heap.size w w') : RetBB t w p (.returned (.tuple #[.slice none 0 0, .slice none 0 0, .int .i64 n])) w' := by
  rw [h]
  exact ⟨_, _, rfl, OwnBs.nil _ _ _, OwnBs.nil _ _ _, hb⟩
end Go.Creel
namespace Go.Proofs.YtaffgndickdbiaaGreatDoor
set_option linter.unusedVariables false
set_option linter.unusedSimpArgs false
open Go.Creel Go.RowKit
theorem TrimZ_yes {s : ByteArray} (h : ∀ x ∈ s.data.toList, x = 0) (w : World) (hs : s.size ≤ maxLen) :
    Calls Tryz.prog 130 #[.string s, .string ⟨#[0]⟩] w fun e w' => e = .returned (.string ⟨#[]⟩) ∧ Below w.heap.size w w' := by
  refine (Trim0_any s w hs).mono ?_
  rintro e w' ⟨rfl, hb⟩
  rw [trim_empty.2 h]
  exact ⟨rfl, hb⟩
theorem TrimZ_no {s : ByteArray} (h : ¬ ∀ x ∈ s.data.toList, x = 0) (w : World) (hs : s.size ≤ maxLen) :
    Calls Tryz.prog 130 #[.string s, .string ⟨#[0]⟩] w fun e w' => Below w.heap.size w w' ∧ ∃ t : ByteArray, e = .returned (.string t) ∧ t.toList.isEmpty = false := by
  refine (Trim0_any s w hs).mono ?_
  rintro e w' ⟨rfl, hb⟩
  refine ⟨hb, _, rfl, empty_f ?_⟩
  rw [ofL_size]
  intro e
  exact h (trim_empty.1 (List.eq_nil_of_length_eq_zero e))
theorem slice_zero {N : Nat} (w : World) (a : Addr) (c : Nat) (hc : c ≤ maxLen) : SliceC N 1 ByteC w [.slice (some a) 0 c] [] :=
  ⟨some a, c, rfl, by simp, hc, by simp, (fun h => by cases h), fun h => absurd h (by simp)⟩
theorem _root_.Go.Creel.OwnBs.below {t : TypeId} {w w' : World} {B : Nat} {v : Value} {l : List UInt8} (h : OwnBs t w B v l) (hb : Below w.heap.size w w') : OwnBs t w' B v l := by
  rcases h.2 with ⟨rfl, h0⟩ | ⟨g, cap, cur, rfl, hbg, hg, hnc, hcm, hcs, htake⟩
  · exact ⟨h.1, .inl ⟨rfl, h0⟩⟩
  · have hlt : g < w.heap.size := (Array.getElem?_eq_some_iff.1 hg).1
    exact ⟨h.1, .inr ⟨g, cap, cur, rfl, hbg, (hb.block g hlt).trans hg, hnc, hcm, hcs, htake⟩⟩
theorem _root_.Go.Creel.OwnBs.mono {t : TypeId} {w : World} {B B' : Nat} {v : Value} {l : List UInt8} (h : OwnBs t w B v l) (hb : B' ≤ B) : OwnBs t w B' v l := by
  rcases h.2 with ⟨rfl, h0⟩ | ⟨g, cap, cur, rfl, hbg, hg, hnc, hcm, hcs, htake⟩
  · exact ⟨h.1, .inl ⟨rfl, h0⟩⟩
  · exact ⟨h.1, .inr ⟨g, cap, cur, rfl, Nat.le_trans hb hbg, hg, hnc, hcm, hcs, htake⟩⟩
theorem _root_.Go.Creel.blk_ne {v v0 : Value} {b n : Nat} (h : v.ownBlock = v0.ownBlock ∨ ∃ g, v.ownBlock = some g ∧ n ≤ g) (h0 : v0.ownBlock ≠ some b) (hn : b < n) : v.ownBlock = none ∨ v.ownBlock ≠ some b := by
  rcases h with h | ⟨g, h, hg⟩
  · exact .inr (by rw [h]; exact h0)
  · exact .inr (by rw [h]; intro e; cases e; omega)
theorem _root_.Go.Creel.own_lt {t : TypeId} {w : World} {B : Nat} {v : Value} {l : List UInt8} (h : OwnBs t w B v l) : v.ownBlock = none ∨ v.ownBlock ≠ some w.heap.size := by
  rcases h.form with ⟨rfl, _⟩ | ⟨g, cap, rfl, h⟩
  · exact .inl rfl
  · refine .inr ?_
    have := (OwnB.lt h).2
    intro e
    simp [Value.ownBlock] at e
    omega
set_option maxRecDepth 100000 in
set_option maxHeartbeats 8000000 in
theorem PadCutL_bad (v : Value) (l : List UInt8) (n : Int) (w : World) (hn : i64 n) (h : n < 0 ∨ 8589934591 < n) :
    Calls Tryz.prog 118 #[v, .int .i64 n] w (RetBB 5 w (padCut l n)) := by
  have HK := Lib.hid (fun (w : World) => Blocks_any n w hn)
  have HP := Lib.hid (show padBlocks n = (0, 4) by unfold padBlocks; rw [if_neg (by omega)])
  have HF := Lib.hid (show padCut l n = ([], [], 4) by unfold padCut; rw [if_pos h])
  clear h hn
  go_enter Tryz.func118, Tryz.ntmps118
  go_wp2_with (go_at_call 171; refine (HK.out _).mono ?_; rintro e w' ⟨rfl, rfl⟩; rw [HP.out])
  go_ret3
  exact RetBB.err HF.out (Below.refl _ _)
set_option maxRecDepth 100000 in
set_option maxHeartbeats 8000000 in
theorem PadCutL_some {N : Nat} (b off cap : Nat) (l : List UInt8) (m k : Nat) (w : World) (hn : m ≤ 8589934591) (hkk : (m + 511) / 512 = k) (hl : l.length ≤ 1048576) (hle : l.length ≤ cap) (hm : cap ≤ maxLen) (hN : l.length ≤ N) (hc : ∀ i, i < l.length → w.cell? ⟨b, off + i, none⟩ = some (.int .u8 (bl l i))) :
    Calls Tryz.prog 118 #[.slice (some ⟨b, off, none⟩) l.length cap, .int .i64 m] w (RetBB 5 w (padCut l m)) := by
  have HK := Lib.hid (fun (w : World) => Blocks_any m w (by unfold i64; omega))
  obtain ⟨i0, hi, hz0, hz1, hz2⟩ := info_parts info_byte2
  have HI := Lib.hid (And.intro hi (And.intro hz0 (And.intro hz1 hz2)))
  clear hi hz0 hz1 hz2
  have HP := Lib.hid (show padBlocks (m : Int) = (((k : Nat) : Int), 0) by unfold padBlocks; rw [if_pos (by omega), ← hkk]; congr 1)
  have hk : m ≤ k * 512 := by omega
  by_cases hs : l.length < k * 512
  · have HF := Lib.hid (show padCut l (m : Int) = ([], [], 7) by unfold padCut; rw [if_neg (by omega), Int.toNat_natCast, hkk, if_pos hs])
    clear hc
    go_enter Tryz.func118, Tryz.ntmps118
    go_wp2_with (go_at_call 171; refine (HK.out _).mono ?_; rintro e w' ⟨rfl, rfl⟩; rw [HP.out])
    all_goals first | (exfalso; omega) | (go_ret3; exact RetBB.err HF.out (Below.refl _ _))
  · have hzs : (ofL ((l.drop m).take (k * 512 - m))).size ≤ maxLen := by rw [ofL_size]; unfold maxLen; simp; omega
    have hs1 := slice_sub (N := N) hle hm hN hc 0 m (by omega)
    rw [Nat.add_zero, List.drop_zero, Nat.sub_zero] at hs1
    have HS1 := Lib.hid hs1
    clear hs1
    have hmc : m ≤ cap := by omega
    have hkl : k * 512 ≤ l.length := by omega
    have hkc : k * 512 ≤ cap := by omega
    have hk0 : (0 : Int) ≤ (k : Int) * 512 := by omega
    have hki : (m : Int) ≤ (k : Int) * 512 := by omega
    have hkt : ((k : Int) * 512).toNat = k * 512 := by omega
    have hwr : IntKind.i64.wrap ((k : Int) * 512) = (k : Int) * 512 := by rw [IntKind.wrap_i64]; omega
    by_cases hcm : cap = m
    · have hcm' : m = cap := hcm.symm
      subst hcm'
      have hz : zeroB l m (k * 512) := fun i h1 h2 => absurd h2 (by omega)
      have h1 : l.length = m := by omega
      have h2 : k * 512 = m := by omega
      have HS2 : Hid (SliceC N 1 ByteC w [.slice (some ⟨b, off, none⟩) (l.length - k * 512) 0] (l.drop (k * 512))) := Lib.hid (by
        rw [show l.length - k * 512 = 0 by omega, List.drop_of_length_le (by omega)]; exact slice_zero _ _ _ (by decide))
      have hcv : (convert 24 9 (.slice (some ⟨b, off, none⟩) 0 0)).run Tryz.prog w = .ok (.string (ofL [])) w := conv w (slice_zero (N := N) _ _ _ (by decide))
      have HF := Lib.hid (show padCut l (m : Int) = (l.take m, l.drop (k * 512), 0) by unfold padCut; rw [if_neg (by omega), Int.toNat_natCast, hkk, if_neg hs, if_pos hz])
      have HT := Lib.hid (fun (w : World) => TrimZ_yes (s := ofL []) (by rw [ofL_data]; intro x hx; cases hx) w (by decide))
      clear hz hzs hc
      unfold maxLen at hm
      go_enter Tryz.func118, Tryz.ntmps118
      go_wp2_with (first | (go_at_call 171; refine (HK.out _).mono ?_; rintro e w' ⟨rfl, rfl⟩; rw [HP.out]) | (go_at_call 130; refine (HT.out _).mono ?_; rintro e w0 ⟨rfl, hb⟩; have HB0 := Lib.hid hb.drew; clear hb))
      go_region_law (first
        | (refine step_app w0.drew rfl (.const (.slice none 0 0)) (.tmp 32) 24 24 rfl (.slice none 0 0) (.slice (some ⟨b, off, none⟩) m m) (by simp [Act.eval, Act.put]) (by simp [Act.eval, Act.put]) (fun ty => app_bytes (l := []) (B := w.heap.size) w0.drew _ _ _ _ i0 Tryz.underlying24 Tryz.underlying24 HI.out.1 HI.out.2.1 HI.out.2.2.1 HI.out.2.2.2 (OwnBs.nil _ _ _) (HS1.out.below (fun _ _ h => h) HB0.out) (by simp; omega) HB0.out.size ty) ?_; intro v1 w1 ho hg _; have HO := Lib.hid (OwnBs.app (l := []) ho); have HB := Lib.hid (below_app HB0.out hg (World.ownsRow_nil _ w.heap.size 5 1) HB0.out.size); clear ho hg)
        | (refine step_app w1 rfl (.const (.slice none 0 0)) (.tmp 37) 24 24 rfl (.slice none 0 0) (.slice (some ⟨b, off, none⟩) 0 0) (by simp [Act.eval, Act.put]) (by simp [Act.eval, Act.put]) (fun ty => app_bytes (l := []) (B := w1.heap.size) w1 _ _ _ _ i0 Tryz.underlying24 Tryz.underlying24 HI.out.1 HI.out.2.1 HI.out.2.2.1 HI.out.2.2.2 (OwnBs.nil _ _ _) (HS2.out.below (fun _ _ h => h) HB.out) (by simp; omega) (Nat.le_refl _) ty) ?_; intro v2 w2 ho hg _; have HO2 := Lib.hid (OwnBs.app (l := []) ho); have HB2 := Lib.hid (below_app (Below.refl w1.heap.size w1) hg (World.ownsRow_nil _ w1.heap.size 5 1) (Nat.le_refl _)); clear ho hg))
      go_wp2
      go_ret3
      rw [HF.out]
      have e := HO.out
      simp only [List.nil_append] at e
      rw [show l.drop (k * 512) = [] from List.drop_of_length_le (by omega)]
      exact ⟨_, _, rfl, e, OwnBs.nil _ _ _, HB.out⟩
    · have HS := Lib.hid (slice_sub (N := N) hle hm hN hc m (k * 512 - m) (by omega))
      have hcv := conv w HS.out
      by_cases hz : zeroB l m (k * 512)
      · by_cases hck : cap = k * 512
        · subst hck
          have HS2 : Hid (SliceC N 1 ByteC w [.slice (some ⟨b, off, none⟩) 0 0] (l.drop (k * 512))) := Lib.hid (by
            rw [List.drop_of_length_le (by omega)]; exact slice_zero _ _ _ (by decide))
          have HF := Lib.hid (show padCut l (m : Int) = (l.take m, l.drop (k * 512), 0) by unfold padCut; rw [if_neg (by omega), Int.toNat_natCast, hkk, if_neg hs, if_pos hz])
          have HT := Lib.hid (fun (w : World) => TrimZ_yes (s := ofL ((l.drop m).take (k * 512 - m))) (by rw [ofL_data]; exact (sub_zero (by omega)).2 hz) w hzs)
          clear hz hzs hc
          unfold maxLen at hm
          go_enter Tryz.func118, Tryz.ntmps118
          go_wp2_with (first | (go_at_call 171; refine (HK.out _).mono ?_; rintro e w' ⟨rfl, rfl⟩; rw [HP.out]) | (go_at_call 130; refine (HT.out _).mono ?_; rintro e w0 ⟨rfl, hb⟩; have HB0 := Lib.hid hb.drew; clear hb))
          go_region_law (first
            | (refine step_app w0.drew rfl (.const (.slice none 0 0)) (.tmp 32) 24 24 rfl (.slice none 0 0) (.slice (some ⟨b, off, none⟩) m (k * 512)) (by simp [Act.eval, Act.put]) (by simp [Act.eval, Act.put]) (fun ty => app_bytes (l := []) (B := w.heap.size) w0.drew _ _ _ _ i0 Tryz.underlying24 Tryz.underlying24 HI.out.1 HI.out.2.1 HI.out.2.2.1 HI.out.2.2.2 (OwnBs.nil _ _ _) (HS1.out.below (fun _ _ h => h) HB0.out) (by simp; omega) HB0.out.size ty) ?_; intro v1 w1 ho hg _; have HO := Lib.hid (OwnBs.app (l := []) ho); have HB := Lib.hid (below_app HB0.out hg (World.ownsRow_nil _ w.heap.size 5 1) HB0.out.size); clear ho hg)
            | (refine step_app w1 rfl (.const (.slice none 0 0)) (.tmp 37) 24 24 rfl (.slice none 0 0) (.slice (some ⟨b, off, none⟩) 0 0) (by simp [Act.eval, Act.put]) (by simp [Act.eval, Act.put]) (fun ty => app_bytes (l := []) (B := w1.heap.size) w1 _ _ _ _ i0 Tryz.underlying24 Tryz.underlying24 HI.out.1 HI.out.2.1 HI.out.2.2.1 HI.out.2.2.2 (OwnBs.nil _ _ _) (HS2.out.below (fun _ _ h => h) HB.out) (by simp; omega) (Nat.le_refl _) ty) ?_; intro v2 w2 ho hg _; have HO2 := Lib.hid (OwnBs.app (l := []) ho); have HB2 := Lib.hid (below_app (Below.refl w1.heap.size w1) hg (World.ownsRow_nil _ w1.heap.size 5 1) (Nat.le_refl _)); clear ho hg))
          go_wp2
          go_ret3
          rw [HF.out]
          refine ⟨_, _, rfl, ?_, ?_, HB.out.trans (HB2.out.mono HB.out.size)⟩
          · have e := HO.out.below HB2.out
            simp only [List.nil_append] at e
            exact e
          · have e := OwnBs.mono HO2.out HB.out.size
            simp only [List.nil_append] at e
            exact e
        · have hs2 := slice_sub (N := N) hle hm hN hc (k * 512) (l.length - k * 512) (by omega)
          rw [List.take_of_length_le (by simp)] at hs2
          have HS2 := Lib.hid hs2
          clear hs2
          have HF := Lib.hid (show padCut l (m : Int) = (l.take m, l.drop (k * 512), 0) by unfold padCut; rw [if_neg (by omega), Int.toNat_natCast, hkk, if_neg hs, if_pos hz])
          have HT := Lib.hid (fun (w : World) => TrimZ_yes (s := ofL ((l.drop m).take (k * 512 - m))) (by rw [ofL_data]; exact (sub_zero (by omega)).2 hz) w hzs)
          clear hz hzs hc
          unfold maxLen at hm
          go_enter Tryz.func118, Tryz.ntmps118
          go_wp2_with (first | (go_at_call 171; refine (HK.out _).mono ?_; rintro e w' ⟨rfl, rfl⟩; rw [HP.out]) | (go_at_call 130; refine (HT.out _).mono ?_; rintro e w0 ⟨rfl, hb⟩; have HB0 := Lib.hid hb.drew; clear hb))
          go_region_law (first
            | (refine step_app w0.drew rfl (.const (.slice none 0 0)) (.tmp 32) 24 24 rfl (.slice none 0 0) (.slice (some ⟨b, off, none⟩) m cap) (by simp [Act.eval, Act.put]) (by simp [Act.eval, Act.put]) (fun ty => app_bytes (l := []) (B := w.heap.size) w0.drew _ _ _ _ i0 Tryz.underlying24 Tryz.underlying24 HI.out.1 HI.out.2.1 HI.out.2.2.1 HI.out.2.2.2 (OwnBs.nil _ _ _) (HS1.out.below (fun _ _ h => h) HB0.out) (by simp; omega) HB0.out.size ty) ?_; intro v1 w1 ho hg _; have HO := Lib.hid (OwnBs.app (l := []) ho); have HB := Lib.hid (below_app HB0.out hg (World.ownsRow_nil _ w.heap.size 5 1) HB0.out.size); clear ho hg)
            | (refine step_app w1 rfl (.const (.slice none 0 0)) (.tmp 37) 24 24 rfl (.slice none 0 0) (.slice (some ⟨b, off + k * 512, none⟩) (l.length - k * 512) (cap - k * 512)) (by simp [Act.eval, Act.put]) (by simp [Act.eval, Act.put]) (fun ty => app_bytes (l := []) (B := w1.heap.size) w1 _ _ _ _ i0 Tryz.underlying24 Tryz.underlying24 HI.out.1 HI.out.2.1 HI.out.2.2.1 HI.out.2.2.2 (OwnBs.nil _ _ _) (HS2.out.below (fun _ _ h => h) HB.out) (by simp; omega) (Nat.le_refl _) ty) ?_; intro v2 w2 ho hg _; have HO2 := Lib.hid (OwnBs.app (l := []) ho); have HB2 := Lib.hid (below_app (Below.refl w1.heap.size w1) hg (World.ownsRow_nil _ w1.heap.size 5 1) (Nat.le_refl _)); clear ho hg))
          go_wp2
          go_ret3
          rw [HF.out]
          refine ⟨_, _, rfl, ?_, ?_, HB.out.trans (HB2.out.mono HB.out.size)⟩
          · have e := HO.out.below HB2.out
            simp only [List.nil_append] at e
            exact e
          · have e := OwnBs.mono HO2.out HB.out.size
            simp only [List.nil_append] at e
            exact e
      · unfold maxLen at hm
        have HF := Lib.hid (show padCut l (m : Int) = ([], [], 3) by unfold padCut; rw [if_neg (by omega), Int.toNat_natCast, hkk, if_neg hs, if_neg hz])
        have HT := Lib.hid (fun (w : World) => TrimZ_no (s := ofL ((l.drop m).take (k * 512 - m))) (by rw [ofL_data]; exact fun e => hz ((sub_zero (by omega)).1 e)) w hzs)
        clear hz hzs hc
        go_enter Tryz.func118, Tryz.ntmps118
        go_wp2_with (first | (go_at_call 171; refine (HK.out _).mono ?_; rintro e w' ⟨rfl, rfl⟩; rw [HP.out]) | (go_at_call 130; refine (HT.out _).mono ?_; rintro e w0 ⟨hb, t, rfl, ht⟩; have HB0 := Lib.hid hb; clear hb))
        go_ret3
        exact RetBB.err HF.out HB0.out
set_option maxRecDepth 100000 in
set_option maxHeartbeats 8000000 in
theorem PadCutL_nil (a : Option Addr) (cap : Nat) (m k : Nat) (w : World) (hn : m ≤ 8589934591) (hkk : (m + 511) / 512 = k) (ha : a = none → cap = 0) (hm : cap ≤ maxLen) :
    Calls Tryz.prog 118 #[.slice a 0 cap, .int .i64 m] w (RetBB 5 w (padCut [] m)) := by
  have HK := Lib.hid (fun (w : World) => Blocks_any m w (by unfold i64; omega))
  have HP := Lib.hid (show padBlocks (m : Int) = (((k : Nat) : Int), 0) by unfold padBlocks; rw [if_pos (by omega), ← hkk]; congr 1)
  by_cases hs : 0 < k
  · have HF := Lib.hid (show padCut [] (m : Int) = ([], [], 7) by unfold padCut; rw [if_neg (by omega), Int.toNat_natCast, hkk, if_pos (by simp; omega)])
    go_enter Tryz.func118, Tryz.ntmps118
    go_wp2_with (go_at_call 171; refine (HK.out _).mono ?_; rintro e w' ⟨rfl, rfl⟩; rw [HP.out])
    all_goals first | (exfalso; omega) | (go_ret3; exact RetBB.err HF.out (Below.refl _ _))
  · obtain rfl : m = 0 := by omega
    obtain rfl : k = 0 := by omega
    have HF := Lib.hid (show padCut [] ((0 : Nat) : Int) = ([], [], 0) by unfold padCut zeroB; simp)
    have HT := Lib.hid (fun (w : World) => TrimZ_yes (s := ofL []) (by rw [ofL_data]; intro x hx; cases hx) w (by decide))
    cases a with
    | none =>
      obtain rfl := ha rfl
      have hcv := conv w (show SliceC maxLen 1 ByteC w [.slice none 0 0] [] from ⟨none, 0, rfl, by simp, by simp, by simp, fun _ => rfl, fun h => absurd h (by simp)⟩)
      go_enter Tryz.func118, Tryz.ntmps118
      go_wp2_with (first | (go_at_call 171; refine (HK.out _).mono ?_; rintro e w' ⟨rfl, rfl⟩; rw [HP.out]) | (go_at_call 130; refine (HT.out _).mono ?_; rintro e w0 ⟨rfl, hb⟩; have HB0 := Lib.hid hb.drew; clear hb))
      go_region
      all_goals
        go_wp2
        go_ret3
        rw [HF.out]
        exact ⟨_, _, rfl, OwnBs.nil _ _ _, OwnBs.nil _ _ _, HB0.out⟩
    | some a =>
      have hcv := conv w (slice_zero (N := maxLen) w a cap hm)
      have hcv2 := conv w (slice_zero (N := maxLen) w a 0 (by decide))
      have hl0 : ∀ w : World, (loadCellsFrom a 0 0 #[]).run Tryz.prog w = .ok #[] w := fun _ => rfl
      go_enter Tryz.func118, Tryz.ntmps118
      go_wp2_with (first | (go_at_call 171; refine (HK.out _).mono ?_; rintro e w' ⟨rfl, rfl⟩; rw [HP.out]) | (go_at_call 130; refine (HT.out _).mono ?_; rintro e w0 ⟨rfl, hb⟩; have HB0 := Lib.hid hb.drew; clear hb))
      trace_state
      all_goals
        go_region
        all_goals
        go_wp2
        go_ret3
        rw [HF.out]
        exact ⟨_, _, rfl, OwnBs.nil _ _ _, OwnBs.nil _ _ _, HB0.out⟩
theorem PadCutL_any {N : Nat} (v : Value) (l : List UInt8) (n : Int) (w : World) (hn : i64 n) (h : SliceC N 1 ByteC w [v] l) (hl : l.length ≤ 1048576) :
    Calls Tryz.prog 118 #[v, .int .i64 n] w (RetBB 5 w (padCut l n)) := by
  by_cases hb : n < 0 ∨ 8589934591 < n
  · exact PadCutL_bad v l n w hn hb
  · obtain ⟨m, rfl⟩ : ∃ m : Nat, n = m := ⟨n.toNat, by omega⟩
    obtain ⟨a, cap, hv, h1, h2, h3, h4, h5⟩ := h
    simp only [List.cons.injEq, and_true] at hv
    subst hv
    by_cases hp : 0 < l.length
    · rcases bytes_cases (N := N) (w := w) (v := .slice a l.length cap) (l := l) ⟨a, cap, rfl, h1, h2, h3, h4, h5⟩ with ⟨_, _, _, e⟩ | ⟨b, off, c2, e, _, _, _, _, hc⟩
      · rw [e] at hp; simp at hp
      · simp only [Value.slice.injEq] at e
        obtain ⟨rfl, _, rfl⟩ := e
        exact PadCutL_some b off cap l m _ w (by omega) rfl hl h1 h2 h3 hc
    · have e : l = [] := List.eq_nil_of_length_eq_zero (by omega)
      subst e
      exact PadCutL_nil a cap m _ w (by omega) rfl h4 h2
end Go.Proofs.YtaffgndickdbiaaGreatDoor
/-
  the reference of pad.Cut; pad.End, pad.Ends.
-/
namespace Go.Proofs.YtaffgndickdbiaaGreatDoor
set_option linter.unusedVariables false
set_option linter.unusedSimpArgs false
open Go.Creel Go.RowKit
set_option maxRecDepth 100000 in
set_option maxHeartbeats 8000000 in
theorem PadCutR_bad (v : Value) (l : List UInt8) (n : Int) (w : World) (hn : i64 n) (h : n < 0 ∨ 8589934591 < n) :
    Calls Tryz.prog 126 #[v, .int .i64 n] w (RetBB 5 w (padCut l n)) := by
  have HK := Lib.hid (fun (w : World) => PadBlocks_any n w hn)
  have HP := Lib.hid (show padBlocks n = (0, 4) by unfold padBlocks; rw [if_neg (by omega)])
  have HF := Lib.hid (show padCut l n = ([], [], 4) by unfold padCut; rw [if_pos h])
  clear h hn
  go_enter Tryz.func126, Tryz.ntmps126
  go_wp2_with (go_at_call 182; refine (HK.out _).mono ?_; rintro e w' ⟨rfl, rfl⟩; rw [HP.out])
  go_ret3
  exact RetBB.err HF.out (Below.refl _ _)
set_option maxRecDepth 100000 in
set_option maxHeartbeats 8000000 in
theorem PadCutR_some {N : Nat} (b off cap : Nat) (l : List UInt8) (m k : Nat) (w : World) (hn : m ≤ 8589934591) (hkk : (m + 511) / 512 = k) (hl : l.length ≤ 1048576) (hle : l.length ≤ cap) (hm : cap ≤ maxLen) (hN : l.length ≤ N) (hc : ∀ i, i < l.length → w.cell? ⟨b, off + i, none⟩ = some (.int .u8 (bl l i))) :
    Calls Tryz.prog 126 #[.slice (some ⟨b, off, none⟩) l.length cap, .int .i64 m] w (RetBB 5 w (padCut l m)) := by
  have HK := Lib.hid (fun (w : World) => PadBlocks_any m w (by unfold i64; omega))
  obtain ⟨i0, hi, hz0, hz1, hz2⟩ := info_parts info_byte2
  have HI := Lib.hid (And.intro hi (And.intro hz0 (And.intro hz1 hz2)))
  clear hi hz0 hz1 hz2
  have HP := Lib.hid (show padBlocks (m : Int) = (((k : Nat) : Int), 0) by unfold padBlocks; rw [if_pos (by omega), ← hkk]; congr 1)
  have hk : m ≤ k * 512 := by omega
  by_cases hs : l.length < k * 512
  · have HF := Lib.hid (show padCut l (m : Int) = ([], [], 7) by unfold padCut; rw [if_neg (by omega), Int.toNat_natCast, hkk, if_pos hs])
    clear hc
    go_enter Tryz.func126, Tryz.ntmps126
    go_wp2_with (go_at_call 182; refine (HK.out _).mono ?_; rintro e w' ⟨rfl, rfl⟩; rw [HP.out])
    all_goals first | (exfalso; omega) | (go_ret3; exact RetBB.err HF.out (Below.refl _ _))
  · have hs1 := slice_sub (N := N) hle hm hN hc 0 m (by omega)
    rw [Nat.add_zero, List.drop_zero, Nat.sub_zero] at hs1
    have HS1 := Lib.hid hs1
    have hs2 := slice_sub (N := N) hle hm hN hc (k * 512) (l.length - k * 512) (by omega)
    rw [List.take_of_length_le (by simp)] at hs2
    have HS2 := Lib.hid hs2
    have HC := Lib.hid hc
    clear hs1 hs2 hc
    unfold maxLen at hm
    have hmc : m ≤ cap := by omega
    have hkl : k * 512 ≤ l.length := by omega
    have hkc : k * 512 ≤ cap := by omega
    have hk0 : (0 : Int) ≤ 512 * (k : Int) := by omega
    have hki : (m : Int) ≤ (k : Int) * 512 := by omega
    have hkl2 : 512 * (k : Int) ≤ (l.length : Int) := by omega
    have hki2 : (m : Int) ≤ 512 * (k : Int) := by omega
    have hkt : (512 * (k : Int)).toNat = k * 512 := by omega
    have hwr : IntKind.i64.wrap (512 * (k : Int)) = 512 * (k : Int) := by rw [IntKind.wrap_i64]; omega
    have hKI : (512 * (k : Int)) = ((k * 512 : Nat) : Int) := by omega
    generalize hK : k * 512 = KX at *
    have hwK : IntKind.i64.wrap (KX : Int) = (KX : Int) := by rw [IntKind.wrap_i64]; omega
    have hKl : (KX : Int) ≤ (l.length : Int) := by omega
    have hKm : (m : Int) ≤ (KX : Int) := by omega
    go_enter Tryz.func126, Tryz.ntmps126
    go_wp2_with (go_at_call 182; refine (HK.out _).mono ?_; rintro e w' ⟨rfl, rfl⟩; rw [HP.out])
    all_goals try (exfalso; omega)
    go_loop [9] (fun i => ∃ j : Nat, m ≤ j ∧ j ≤ KX ∧ i = .int .i64 j ∧ Hid (∀ q, m ≤ q → q < j → bl l q = 0)) (fun i => KX - (intOf i).toNat)
    case atStart => exact ⟨m, by omega, by omega, rfl, Lib.hid fun q h1 h2 => absurd h1 (by omega)⟩
    case round =>
      obtain ⟨j, h1, h2, rfl, HD⟩ := hrel
      by_cases hlt : j < KX
      · have hcj := HC.out j (by omega)
        have hbl := bl_lt l j
        by_cases hz : bl l j = 0
        · have HZ := Lib.hid hz
          go_wp2
          go_round
          case rel => exact ⟨j + 1, by omega, by omega, by go_num, Lib.hid fun q h1 h2 => by
            by_cases e : q = j
            · rw [e]; exact HZ.out
            · exact HD.out q h1 (by omega)⟩
          case measure => simp [intOf]; omega
        · have HF := Lib.hid (show padCut l (m : Int) = ([], [], 3) by unfold padCut; rw [if_neg (by omega), Int.toNat_natCast, hkk, hK, if_neg hs, if_neg (fun e => hz (e j h1 hlt))])
          go_wp2
          go_ret3
          exact RetBB.err HF.out (Below.refl _ _)
      · obtain rfl : KX = j := by omega
        have HF := Lib.hid (show padCut l (m : Int) = (l.take m, l.drop (KX), 0) by unfold padCut; rw [if_neg (by omega), Int.toNat_natCast, hkk, hK, if_neg hs, if_pos (show zeroB l m (KX) from HD.out)])
        have HOX : Hid (OwnBs 5 (w.alloc (.cells #[] 5)) w.heap.size (.slice (some ⟨w.heap.size, 0, none⟩) 0 0) []) := Lib.hid (World.ownsRow_made w #[] 0 (Nat.le_refl _) (by simp) rfl)
        have HBX := Lib.hid ((Below.refl w.heap.size w).alloc (Nat.le_refl _) (.cells #[] 5))
        have HOA := Lib.hid (OwnBs.below HOX.out (Below.refl _ _).drew)
        have HBA := Lib.hid HBX.out.drew
        have HBB := Lib.hid (HBX.out.alloc HBX.out.size (.cells #[] 5)).drew
        have HO0 : Hid (OwnBs 5 ((w.alloc (.cells #[] 5)).alloc (.cells #[] 5)).drew w.heap.size (.slice (some ⟨w.heap.size, 0, none⟩) 0 0) []) := Lib.hid (OwnBs.below (World.ownsRow.alloc HOX.out (.cells #[] 5)) (Below.refl _ _).drew)
        have HO1 : Hid (OwnBs 5 ((w.alloc (.cells #[] 5)).alloc (.cells #[] 5)).drew w.heap.size (.slice (some ⟨w.heap.size + 1, 0, none⟩) 0 0) []) := Lib.hid (by
          have e := World.ownsRow_made (base := w.heap.size) (e := 5) (size := 1) (w.alloc (.cells #[] 5)) #[] 0 (by simp) (by simp) rfl
          have e2 : OwnBs 5 ((w.alloc (.cells #[] 5)).alloc (.cells #[] 5)) w.heap.size (.slice (some ⟨w.heap.size + 1, 0, none⟩) 0 0) [] := by simpa [OwnBs] using e
          exact e2.below (Below.refl _ _).drew)
        by_cases hck : cap = KX
        · have HS2 : Hid (SliceC N 1 ByteC w [.slice (some ⟨b, off, none⟩) 0 0] (l.drop (KX))) := Lib.hid (by
            rw [List.drop_of_length_le (by omega)]; exact slice_zero _ _ _ (by decide))
          obtain rfl : KX = cap := hck.symm
          have HAPA := Lib.hid (fun ty => app_bytes (l := []) (B := w.heap.size) ((w.alloc (.cells #[] 5)).drew) 24 24 5 5 i0 Tryz.underlying24 Tryz.underlying24 HI.out.1 HI.out.2.1 HI.out.2.2.1 HI.out.2.2.2 (HOA.out) (HS1.out.below (fun _ _ h => h) (HBA.out)) (by simp; omega) (HBA.out).size ty)
          have HAPB := Lib.hid (fun ty => app_bytes (l := []) (B := w.heap.size) (((w.alloc (.cells #[] 5)).alloc (.cells #[] 5)).drew) 24 24 5 5 i0 Tryz.underlying24 Tryz.underlying24 HI.out.1 HI.out.2.1 HI.out.2.2.1 HI.out.2.2.2 (HO0.out) (HS1.out.below (fun _ _ h => h) (HBB.out)) (by simp; omega) (HBB.out).size ty)
          have HAPC := Lib.hid (fun ty => app_bytes (l := []) (B := w.heap.size) (((w.alloc (.cells #[] 5)).alloc (.cells #[] 5)).drew) 24 24 5 5 i0 Tryz.underlying24 Tryz.underlying24 HI.out.1 HI.out.2.1 HI.out.2.2.1 HI.out.2.2.2 (HO1.out) (HS1.out.below (fun _ _ h => h) (HBB.out)) (by simp; omega) (HBB.out).size ty)
          have HD0 := Lib.hid (show l.drop KX = [] from List.drop_of_length_le (by omega))
          go_wp2
          go_region_law (first
            | (change (if Region.wanted (Oper.mk (some 39) _ _ _ _ _) _ = true then Oper.wp _ _ _ ((w.alloc (.cells #[] 5)).drew) _ _ else _); refine step_app ((w.alloc (.cells #[] 5)).drew) rfl (.tmp 35) (.tmp 38) 24 24 rfl (.slice (some ⟨w.heap.size, 0, none⟩) 0 0) (.slice (some ⟨b, off, none⟩) m KX) ?_ (by simp [Act.eval, Act.put]) HAPA.out ?_; simp [Act.eval, Act.put]; intro v1 w1 ho hg hx; have HO := Lib.hid (OwnBs.app (l := []) ho); have HB := Lib.hid (below_app (HBA.out) hg HOA.out (HBA.out).size); have HV4 : Hid (OwnBs 5 (w1.alloc (.cells #[] 5)) w.heap.size (.slice (some ⟨w1.heap.size, 0, none⟩) 0 0) []) := Lib.hid (World.ownsRow_made w1 #[] 0 HB.out.size (by simp) rfl); clear ho hg hx)
            | (change (if Region.wanted (Oper.mk (some 39) _ _ _ _ _) _ = true then Oper.wp _ _ _ (((w.alloc (.cells #[] 5)).alloc (.cells #[] 5)).drew) _ _ else _); refine step_app (((w.alloc (.cells #[] 5)).alloc (.cells #[] 5)).drew) rfl (.tmp 35) (.tmp 38) 24 24 rfl (.slice (some ⟨w.heap.size, 0, none⟩) 0 0) (.slice (some ⟨b, off, none⟩) m KX) ?_ (by simp [Act.eval, Act.put]) HAPB.out ?_; simp [Act.eval, Act.put]; intro v1 w1 ho hg hx; have HO := Lib.hid (OwnBs.app (l := []) ho); have HB := Lib.hid (below_app (HBB.out) hg HO0.out (HBB.out).size); have HVB := Lib.hid (World.ownsRow.kept HO1.out hg (.inr (by simp [Value.ownBlock]))); have HNE := Lib.hid (blk_ne hx.2 (b := w.heap.size + 1) (by simp [Value.ownBlock]) (by simp)); clear ho hg hx)
            | (change (if Region.wanted (Oper.mk (some 39) _ _ _ _ _) _ = true then Oper.wp _ _ _ (((w.alloc (.cells #[] 5)).alloc (.cells #[] 5)).drew) _ _ else _); refine step_app (((w.alloc (.cells #[] 5)).alloc (.cells #[] 5)).drew) rfl (.tmp 35) (.tmp 38) 24 24 rfl (.slice (some ⟨w.heap.size + 1, 0, none⟩) 0 0) (.slice (some ⟨b, off, none⟩) m KX) ?_ (by simp [Act.eval, Act.put]) HAPC.out ?_; simp [Act.eval, Act.put]; intro v1 w1 ho hg hx; have HO := Lib.hid (OwnBs.app (l := []) ho); have HB := Lib.hid (below_app (HBB.out) hg HO1.out (HBB.out).size); have HVC := Lib.hid (World.ownsRow.kept HO0.out hg (.inr (by simp [Value.ownBlock]))); have HNE := Lib.hid (blk_ne hx.2 (b := w.heap.size) (by simp [Value.ownBlock]) (by simp <;> omega)); clear ho hg hx))
          all_goals
            go_wp2
            go_ret3
            rw [HF.out, HD0.out]
            first
              | exact ⟨_, _, rfl, World.ownsRow.alloc HO.out _, HV4.out, HB.out.alloc HB.out.size _⟩
              | exact ⟨_, _, rfl, HO.out, HVB.out, HB.out⟩
              | exact ⟨_, _, rfl, HO.out, HVC.out, HB.out⟩
        · skip
          have HAPA := Lib.hid (fun ty => app_bytes (l := []) (B := w.heap.size) ((w.alloc (.cells #[] 5)).drew) 24 24 5 5 i0 Tryz.underlying24 Tryz.underlying24 HI.out.1 HI.out.2.1 HI.out.2.2.1 HI.out.2.2.2 (HOA.out) (HS1.out.below (fun _ _ h => h) (HBA.out)) (by simp; omega) (HBA.out).size ty)
          have HAPB := Lib.hid (fun ty => app_bytes (l := []) (B := w.heap.size) (((w.alloc (.cells #[] 5)).alloc (.cells #[] 5)).drew) 24 24 5 5 i0 Tryz.underlying24 Tryz.underlying24 HI.out.1 HI.out.2.1 HI.out.2.2.1 HI.out.2.2.2 (HO0.out) (HS1.out.below (fun _ _ h => h) (HBB.out)) (by simp; omega) (HBB.out).size ty)
          have HAPC := Lib.hid (fun ty => app_bytes (l := []) (B := w.heap.size) (((w.alloc (.cells #[] 5)).alloc (.cells #[] 5)).drew) 24 24 5 5 i0 Tryz.underlying24 Tryz.underlying24 HI.out.1 HI.out.2.1 HI.out.2.2.1 HI.out.2.2.2 (HO1.out) (HS1.out.below (fun _ _ h => h) (HBB.out)) (by simp; omega) (HBB.out).size ty)
          go_wp2
          go_region_law (first
            | (change (if Region.wanted (Oper.mk (some 39) _ _ _ _ _) _ = true then Oper.wp _ _ _ ((w.alloc (.cells #[] 5)).drew) _ _ else _); refine step_app ((w.alloc (.cells #[] 5)).drew) rfl (.tmp 35) (.tmp 38) 24 24 rfl (.slice (some ⟨w.heap.size, 0, none⟩) 0 0) (.slice (some ⟨b, off, none⟩) m cap) ?_ (by simp [Act.eval, Act.put]) HAPA.out ?_; simp [Act.eval, Act.put]; intro v1 w1 ho hg hx; have HO := Lib.hid (OwnBs.app (l := []) ho); have HB := Lib.hid (below_app (HBA.out) hg HOA.out (HBA.out).size); have HV4 : Hid (OwnBs 5 (w1.alloc (.cells #[] 5)) w.heap.size (.slice (some ⟨w1.heap.size, 0, none⟩) 0 0) []) := Lib.hid (World.ownsRow_made w1 #[] 0 HB.out.size (by simp) rfl); clear ho hg hx)
            | (change (if Region.wanted (Oper.mk (some 39) _ _ _ _ _) _ = true then Oper.wp _ _ _ (((w.alloc (.cells #[] 5)).alloc (.cells #[] 5)).drew) _ _ else _); refine step_app (((w.alloc (.cells #[] 5)).alloc (.cells #[] 5)).drew) rfl (.tmp 35) (.tmp 38) 24 24 rfl (.slice (some ⟨w.heap.size, 0, none⟩) 0 0) (.slice (some ⟨b, off, none⟩) m cap) ?_ (by simp [Act.eval, Act.put]) HAPB.out ?_; simp [Act.eval, Act.put]; intro v1 w1 ho hg hx; have HO := Lib.hid (OwnBs.app (l := []) ho); have HB := Lib.hid (below_app (HBB.out) hg HO0.out (HBB.out).size); have HVB := Lib.hid (World.ownsRow.kept HO1.out hg (.inr (by simp [Value.ownBlock]))); have HNE := Lib.hid (blk_ne hx.2 (b := w.heap.size + 1) (by simp [Value.ownBlock]) (by simp)); clear ho hg hx)
            | (change (if Region.wanted (Oper.mk (some 39) _ _ _ _ _) _ = true then Oper.wp _ _ _ (((w.alloc (.cells #[] 5)).alloc (.cells #[] 5)).drew) _ _ else _); refine step_app (((w.alloc (.cells #[] 5)).alloc (.cells #[] 5)).drew) rfl (.tmp 35) (.tmp 38) 24 24 rfl (.slice (some ⟨w.heap.size + 1, 0, none⟩) 0 0) (.slice (some ⟨b, off, none⟩) m cap) ?_ (by simp [Act.eval, Act.put]) HAPC.out ?_; simp [Act.eval, Act.put]; intro v1 w1 ho hg hx; have HO := Lib.hid (OwnBs.app (l := []) ho); have HB := Lib.hid (below_app (HBB.out) hg HO1.out (HBB.out).size); have HVC := Lib.hid (World.ownsRow.kept HO0.out hg (.inr (by simp [Value.ownBlock]))); have HNE := Lib.hid (blk_ne hx.2 (b := w.heap.size) (by simp [Value.ownBlock]) (by simp <;> omega)); clear ho hg hx)
            | (change (if Region.wanted (Oper.mk (some 45) _ _ _ _ _) _ = true then Oper.wp _ _ _ (w1.alloc (.cells #[] 5)) _ _ else _); have hap := fun ty => app_bytes (l := []) (B := w.heap.size) (w1.alloc (.cells #[] 5)) 24 24 5 5 i0 Tryz.underlying24 Tryz.underlying24 HI.out.1 HI.out.2.1 HI.out.2.2.1 HI.out.2.2.2 (HV4.out) (HS2.out.below (fun _ _ h => h) (HB.out.alloc HB.out.size (.cells #[] 5))) (by simp; omega) (HB.out.alloc HB.out.size (.cells #[] 5)).size ty; refine step_app (w1.alloc (.cells #[] 5)) rfl (.tmp 40) (.tmp 44) 24 24 rfl (.slice (some ⟨w1.heap.size, 0, none⟩) 0 0) (.slice (some ⟨b, off + KX, none⟩) (l.length - KX) (cap - KX)) ?_ (by simp [Act.eval, Act.put]) hap ?_; simp [Act.eval, Act.put]; intro v2 w2 ho hg hx; have HO2 := Lib.hid (OwnBs.app (l := []) ho); have HBF := Lib.hid (below_app (HB.out.alloc HB.out.size (.cells #[] 5)) hg (HV4.out) (HB.out.alloc HB.out.size (.cells #[] 5)).size); have HOF := Lib.hid (World.ownsRow.kept (World.ownsRow.alloc HO.out (.cells #[] 5)) hg (own_lt HO.out)); clear ho hg hx hap)
            | (change (if Region.wanted (Oper.mk (some 45) _ _ _ _ _) _ = true then Oper.wp _ _ _ (w1) _ _ else _); have hap := fun ty => app_bytes (l := []) (B := w.heap.size) (w1) 24 24 5 5 i0 Tryz.underlying24 Tryz.underlying24 HI.out.1 HI.out.2.1 HI.out.2.2.1 HI.out.2.2.2 (HVB.out) (HS2.out.below (fun _ _ h => h) (HB.out)) (by simp; omega) (HB.out).size ty; refine step_app (w1) rfl (.tmp 40) (.tmp 44) 24 24 rfl (.slice (some ⟨w.heap.size + 1, 0, none⟩) 0 0) (.slice (some ⟨b, off + KX, none⟩) (l.length - KX) (cap - KX)) ?_ (by simp [Act.eval, Act.put]) hap ?_; simp [Act.eval, Act.put]; intro v2 w2 ho hg hx; have HO2 := Lib.hid (OwnBs.app (l := []) ho); have HBF := Lib.hid (below_app (HB.out) hg (HVB.out) (HB.out).size); have HOF := Lib.hid (World.ownsRow.kept HO.out hg (HNE.out)); clear ho hg hx hap)
            | (change (if Region.wanted (Oper.mk (some 45) _ _ _ _ _) _ = true then Oper.wp _ _ _ (w1) _ _ else _); have hap := fun ty => app_bytes (l := []) (B := w.heap.size) (w1) 24 24 5 5 i0 Tryz.underlying24 Tryz.underlying24 HI.out.1 HI.out.2.1 HI.out.2.2.1 HI.out.2.2.2 (HVC.out) (HS2.out.below (fun _ _ h => h) (HB.out)) (by simp; omega) (HB.out).size ty; refine step_app (w1) rfl (.tmp 40) (.tmp 44) 24 24 rfl (.slice (some ⟨w.heap.size, 0, none⟩) 0 0) (.slice (some ⟨b, off + KX, none⟩) (l.length - KX) (cap - KX)) ?_ (by simp [Act.eval, Act.put]) hap ?_; simp [Act.eval, Act.put]; intro v2 w2 ho hg hx; have HO2 := Lib.hid (OwnBs.app (l := []) ho); have HBF := Lib.hid (below_app (HB.out) hg (HVC.out) (HB.out).size); have HOF := Lib.hid (World.ownsRow.kept HO.out hg (HNE.out)); clear ho hg hx hap))
          all_goals
            go_wp2
            go_ret3
            rw [HF.out]
            refine ⟨_, _, rfl, ?_, ?_, HBF.out⟩
            · have e : OwnBs 5 w2 w.heap.size v1 ([] ++ l.take m) := HOF.out
              rw [List.nil_append] at e
              exact e
            · have e := HO2.out
              simp only [List.nil_append] at e
              exact e
set_option maxRecDepth 100000 in
set_option maxHeartbeats 8000000 in
theorem PadCutR_nil (a : Option Addr) (cap : Nat) (m k : Nat) (w : World) (hn : m ≤ 8589934591) (hkk : (m + 511) / 512 = k) (ha : a = none → cap = 0) (hm : cap ≤ maxLen) :
    Calls Tryz.prog 126 #[.slice a 0 cap, .int .i64 m] w (RetBB 5 w (padCut [] m)) := by
  have HK := Lib.hid (fun (w : World) => PadBlocks_any m w (by unfold i64; omega))
  have HP := Lib.hid (show padBlocks (m : Int) = (((k : Nat) : Int), 0) by unfold padBlocks; rw [if_pos (by omega), ← hkk]; congr 1)
  by_cases hs : 0 < k
  · have HF := Lib.hid (show padCut [] (m : Int) = ([], [], 7) by unfold padCut; rw [if_neg (by omega), Int.toNat_natCast, hkk, if_pos (by simp; omega)])
    go_enter Tryz.func126, Tryz.ntmps126
    go_wp2_with (go_at_call 182; refine (HK.out _).mono ?_; rintro e w' ⟨rfl, rfl⟩; rw [HP.out])
    all_goals first | (exfalso; simp at *; omega) | (go_ret3; exact RetBB.err HF.out (Below.refl _ _))
  · obtain rfl : m = 0 := by omega
    obtain rfl : k = 0 := by omega
    have HF := Lib.hid (show padCut [] ((0 : Nat) : Int) = ([], [], 0) by unfold padCut zeroB; simp)
    have HOX : Hid (OwnBs 5 (w.alloc (.cells #[] 5)) w.heap.size (.slice (some ⟨w.heap.size, 0, none⟩) 0 0) []) := Lib.hid (World.ownsRow_made w #[] 0 (Nat.le_refl _) (by simp) rfl)
    have HBX := Lib.hid ((Below.refl w.heap.size w).alloc (Nat.le_refl _) (.cells #[] 5))
    have HBB := Lib.hid (HBX.out.alloc HBX.out.size (.cells #[] 5)).drew
    have HO0 : Hid (OwnBs 5 ((w.alloc (.cells #[] 5)).alloc (.cells #[] 5)).drew w.heap.size (.slice (some ⟨w.heap.size, 0, none⟩) 0 0) []) := Lib.hid (OwnBs.below (World.ownsRow.alloc HOX.out (.cells #[] 5)) (Below.refl _ _).drew)
    have HO1 : Hid (OwnBs 5 ((w.alloc (.cells #[] 5)).alloc (.cells #[] 5)).drew w.heap.size (.slice (some ⟨w.heap.size + 1, 0, none⟩) 0 0) []) := Lib.hid (by
      have e := World.ownsRow_made (base := w.heap.size) (e := 5) (size := 1) (w.alloc (.cells #[] 5)) #[] 0 (by simp) (by simp) rfl
      have e2 : OwnBs 5 ((w.alloc (.cells #[] 5)).alloc (.cells #[] 5)) w.heap.size (.slice (some ⟨w.heap.size + 1, 0, none⟩) 0 0) [] := by simpa [OwnBs] using e
      exact e2.below (Below.refl _ _).drew)
    have hx : a = none ∨ ∃ p, a = some p := by cases a <;> simp
    rcases hx with rfl | ⟨p, rfl⟩
    · obtain rfl := ha rfl
      go_enter Tryz.func126, Tryz.ntmps126
      go_wp2_with (go_at_call 182; refine (HK.out _).mono ?_; rintro e w' ⟨rfl, rfl⟩; rw [HP.out])
      go_loop [9] (fun i => i = .int .i64 0) (fun i => 0)
      case atStart => rfl
      case round =>
        obtain rfl := hrel
        go_wp2
        go_region
        all_goals
          go_wp2
          go_ret3
          rw [HF.out]
          first | exact ⟨_, _, rfl, HO0.out, HO1.out, HBB.out⟩ | exact ⟨_, _, rfl, HO1.out, HO0.out, HBB.out⟩
    · go_enter Tryz.func126, Tryz.ntmps126
      go_wp2_with (go_at_call 182; refine (HK.out _).mono ?_; rintro e w' ⟨rfl, rfl⟩; rw [HP.out])
      go_loop [9] (fun i => i = .int .i64 0) (fun i => 0)
      case atStart => rfl
      case round =>
        obtain rfl := hrel
        go_wp2
        go_region
        all_goals
          go_wp2
          go_ret3
          rw [HF.out]
          first | exact ⟨_, _, rfl, HO0.out, HO1.out, HBB.out⟩ | exact ⟨_, _, rfl, HO1.out, HO0.out, HBB.out⟩
theorem PadCutR_any {N : Nat} (v : Value) (l : List UInt8) (n : Int) (w : World) (hn : i64 n) (h : SliceC N 1 ByteC w [v] l) (hl : l.length ≤ 1048576) :
    Calls Tryz.prog 126 #[v, .int .i64 n] w (RetBB 5 w (padCut l n)) := by
  by_cases hb : n < 0 ∨ 8589934591 < n
  · exact PadCutR_bad v l n w hn hb
  · obtain ⟨m, rfl⟩ : ∃ m : Nat, n = m := ⟨n.toNat, by omega⟩
    obtain ⟨a, cap, hv, h1, h2, h3, h4, h5⟩ := h
    simp only [List.cons.injEq, and_true] at hv
    subst hv
    by_cases hp : 0 < l.length
    · rcases bytes_cases (N := N) (w := w) (v := .slice a l.length cap) (l := l) ⟨a, cap, rfl, h1, h2, h3, h4, h5⟩ with ⟨_, _, _, e⟩ | ⟨b, off, c2, e, _, _, _, _, hc⟩
      · rw [e] at hp; simp at hp
      · simp only [Value.slice.injEq] at e
        obtain ⟨rfl, _, rfl⟩ := e
        exact PadCutR_some b off cap l m _ w (by omega) rfl hl h1 h2 h3 hc
    · have e : l = [] := List.eq_nil_of_length_eq_zero (by omega)
      subst e
      exact PadCutR_nil a cap m _ w (by omega) rfl h4 h2
set_option maxRecDepth 100000 in
theorem End_any (w : World) : Calls Tryz.prog 47 #[] w fun e w' => ∃ v, e = .returned v ∧ OwnBs 5 w' w.heap.size v (List.replicate 1024 0) ∧ Below w.heap.size w w' := by
  obtain ⟨i0, hi, hz0, hz1, hz2⟩ := info_parts info_byte2
  have hmk : ∀ w : World, (Instr.makeSlice 24 (.int .i64 1024) (.int .i64 1024)).run Tryz.prog w = .ok (.slice (some ⟨w.heap.size, 0, none⟩) 1024 1024) (w.alloc (.cells (madeCells #[.int .u8 0] 1024) 5)) := fun w => run_make_bytes (P := Tryz.prog) w 24 5 i0 Tryz.underlying24 hi hz0 hz1 hz2 1024 (by omega)
  have HO := Lib.hid (ownB_made (t := 5) w 1024 (by decide))
  have HB := Lib.hid ((Below.refl w.heap.size w).alloc (Nat.le_refl _) (.cells (madeCells #[.int .u8 0] 1024) 5))
  clear hi hz0 hz1 hz2
  go_enter Tryz.func47, Tryz.ntmps47
  go_wp2
  go_ret
  refine ⟨_, rfl, ?_, HB.out⟩
  have e := HO.out
  unfold OwnB at e
  unfold OwnBs
  simp only [List.length_replicate] at e ⊢
  exact e
theorem all_zero {l : List UInt8} (h : l.length = 1024) : (∀ x ∈ l, x = 0) ↔ l = List.replicate 1024 0 := by
  rw [List.eq_replicate_iff]
  exact ⟨fun e => ⟨h, e⟩, fun e => e.2⟩
set_option maxRecDepth 100000 in
theorem Ends_any {N : Nat} (v : Value) (l : List UInt8) (w : World) (h : SliceC N 1 ByteC w [v] l) (hl : l.length ≤ 1048576) :
    Calls Tryz.prog 59 #[v] w fun e w' => e = .returned (.bool (decide (l = List.replicate 1024 0))) ∧ Below w.heap.size w w' := by
  have hcv := conv w h
  have hz : (ofL l).size ≤ maxLen := by rw [ofL_size]; unfold maxLen; omega
  obtain ⟨a, cap, hv⟩ : ∃ a cap, v = .slice a l.length cap := by
    obtain ⟨a, cap, hv, _⟩ := h
    exact ⟨a, cap, by simpa using hv⟩
  subst hv
  clear h
  by_cases h1 : l.length = 1024
  · rw [h1] at hcv
    have hd : ((l.length : Int) == 1024) = true := by rw [h1]; rfl
    by_cases h2 : ∀ x ∈ l, x = 0
    · have HF := Lib.hid (show decide (l = List.replicate 1024 0) = true from decide_eq_true ((all_zero h1).1 h2))
      have HT := Lib.hid (fun (w : World) => TrimZ_yes (s := ofL l) (by rw [ofL_data]; exact h2) w hz)
      clear h2 hz
      go_enter Tryz.func59, Tryz.ntmps59
      go_wp2_with (go_at_call 130; refine (HT.out _).mono ?_; rintro e w0 ⟨rfl, hb⟩; have HB := Lib.hid hb; clear hb)
      go_ret
      exact ⟨ret_b HF.out, HB.out⟩
    · have HF := Lib.hid (show decide (l = List.replicate 1024 0) = false from decide_eq_false (fun e => h2 ((all_zero h1).2 e)))
      have HT := Lib.hid (fun (w : World) => TrimZ_no (s := ofL l) (by rw [ofL_data]; exact h2) w hz)
      clear h2 hz
      go_enter Tryz.func59, Tryz.ntmps59
      go_wp2_with (go_at_call 130; refine (HT.out _).mono ?_; rintro e w0 ⟨hb, t, rfl, ht⟩; have HB := Lib.hid hb; clear hb)
      go_ret
      exact ⟨ret_b HF.out, HB.out⟩
  · have HF := Lib.hid (show decide (l = List.replicate 1024 0) = false from decide_eq_false (fun e => h1 (by rw [e]; simp)))
    have hd : ((l.length : Int) == 1024) = false := by rw [beq_eq_false_iff_ne]; omega
    clear hcv hz
    go_enter Tryz.func59, Tryz.ntmps59
    go_wp2
    go_ret
    exact ⟨ret_b HF.out, Below.refl _ _⟩
set_option maxRecDepth 100000 in
theorem sameBytes_any {N M : Nat} (v u : Value) (l m : List UInt8) (w : World) (h1 : SliceC N 1 ByteC w [v] l) (h2 : SliceC M 1 ByteC w [u] m) :
    Calls Tryz.prog 13 #[v, u] w fun e w' => e = .returned (.bool (decide (l = m))) ∧ w = w' := by
  have c1 := conv w h1
  have c2 := conv w h2
  clear h1 h2
  have HF := Lib.hid (show decide (l = m) = ((ofL l).toList == (ofL m).toList) by
    by_cases e : l = m
    · rw [decide_eq_true e, e]; simp
    · rw [decide_eq_false e, seq_f (fun h => e (ofL_inj h))])
  go_enter Tryz.func13, Tryz.ntmps13
  go_wp2
  go_ret
  exact ⟨ret_b HF.out, rfl⟩
end Go.Proofs.YtaffgndickdbiaaGreatDoor
/-
  write.Archive and write.Places, walked.
-/
namespace Go.Proofs.YtaffgndickdbiaaGreatDoor
set_option linter.unusedVariables false
set_option linter.unusedSimpArgs false
open Go.Creel Go.RowKit
theorem EndM_any (w : World) : Calls Tryz.prog 47 #[] w fun e w' => ∃ v, e = .returned v ∧ OwnM 5 w' w.heap.size v zeros1024 ∧ Below w.heap.size w w' :=
  (End_any w).mono fun e w' ⟨v, h1, h2, h3⟩ => ⟨v, h1, h2.marked, h3⟩
set_option maxRecDepth 100000 in
set_option maxHeartbeats 2000000 in
theorem ArchiveL_at (b off cap : Nat) (l : List Ent) (w : World) (hM : MaxOk w) (hT : Pow10 w) (hE : entsFault l = 0) (hpos : 0 < l.length) (hle : l.length ≤ cap) (hm : cap ≤ maxLen) (hc : EntsAt w b off l) (ho : ∀ i, i < l.length → (ek l i).Ok maxLen w) :
    Calls Tryz.prog 14 #[.slice (some ⟨b, off, none⟩) l.length cap] w (RetM 5 w (arcOf l)) := by
  obtain ⟨i0, hi, hz0, hz1, hz2⟩ := info_parts info_byte2
  have HI := Lib.hid (And.intro hi (And.intro hz0 (And.intro hz1 hz2)))
  have HF := Lib.hid (arcOf_ok hE)
  have HCK := Lib.hid (EntsCheck_at b off cap l w hM hpos hle hm hc ho)
  rw [hE] at HCK
  have HEN := Lib.hid (fun k (hk : k < l.length) => (stepE_zero ((entsFault_all hE).2 k hk)).1)
  have hfew := (entsFault_all hE).1
  have HC := Lib.hid hc
  have HOK := Lib.hid ho
  have HM := Lib.hid hM
  have HT := Lib.hid hT
  have HE := Lib.hid hE
  have hcm := hm
  unfold maxLen at hm
  clear hM hT hE hc ho hi hz0 hz1 hz2
  go_enter Tryz.func14, Tryz.ntmps14
  go_wp2_with fail
  refine HCK.out.mono ?_
  rintro e wa ⟨rfl, hb⟩
  have HBA := Lib.hid hb
  clear hb
  have HTL := Lib.hid (fun k => arcTo_le HE.out k)
  go_wp2
  go_loopw [5, 7, 8, 9, 17] (fun v _ _ _ i wr => ∃ k : Nat, k ≤ l.length ∧ i = .int .i64 k ∧ Hid (OwnM 5 wr wa.heap.size v (arcTo l k)) ∧ Hid (Below wa.heap.size wa wr)) (fun _ _ _ _ i _ => l.length - (intOf i).toNat)
  case atStart => exact ⟨0, by omega, rfl, Lib.hid (OwnM.nil _ _ _), Lib.hid (Below.refl _ _)⟩
  case round =>
    obtain ⟨k, hk, rfl, HOW, HB⟩ := hrel
    by_cases hlt : k < l.length
    · have HS := Lib.hid (arcTo_succ hlt)
      have HBW := Lib.hid (HBA.out.trans (HB.out.mono HBA.out.size))
      obtain ⟨h0, h1, h2, h3, h4, h5, h6, h7, h8, h9, h10⟩ := (HC.out.below HBW.out) k hlt
      have HLN := Lib.hid (fun W (hb : Below w.heap.size w W) => MemW_ok (ek l k) W (HM.out.below hb) ((HOK.out k hlt).below hb) (HEN.out k hlt) (HT.out.below hb))
      have hml := memB_le (HEN.out k hlt)
      have htl := HTL.out k
      generalize ek l k = x at *
      have HBX := Lib.hid (HBW.out.alloc HBW.out.size (.cells #[.string x.path, .int .i64 x.kind, .string x.target, .int .i64 x.mt.mode, .int .i64 x.mt.uid, .int .i64 x.mt.gid, .string x.mt.user, .string x.mt.group, .int .i64 x.mt.second, .int .i64 x.mt.nano, .slice x.da x.data.length x.dcap] 26))
      have HBR := Lib.hid (HB.out.alloc HB.out.size (.cells #[.string x.path, .int .i64 x.kind, .string x.target, .int .i64 x.mt.mode, .int .i64 x.mt.uid, .int .i64 x.mt.gid, .string x.mt.user, .string x.mt.group, .int .i64 x.mt.second, .int .i64 x.mt.nano, .slice x.da x.data.length x.dcap] 26))
      have HOR := Lib.hid (HOW.out.below ((Below.refl wr.heap.size wr).alloc (Nat.le_refl _) (.cells #[.string x.path, .int .i64 x.kind, .string x.target, .int .i64 x.mt.mode, .int .i64 x.mt.uid, .int .i64 x.mt.gid, .string x.mt.user, .string x.mt.group, .int .i64 x.mt.second, .int .i64 x.mt.nano, .slice x.da x.data.length x.dcap] 26)))
      have HEB := Lib.hid (entAt_box wr x 26)
      obtain ⟨g0, g1, g2, g3, g4, g5, g6, g7, g8, g9, g10⟩ := HEB.out.zero
      go_wp2_with fail
      refine (HLN.out _ HBX.out).mono ?_
      rintro e w3 ⟨vm, rfl, ho, hb⟩
      simp only at ho ⊢
      have HSM := Lib.hid (ho.slice (N := maxLen) (by unfold maxLen; omega))
      have HB3 := Lib.hid (HBR.out.trans (hb.mono HBR.out.size))
      have HO3 := Lib.hid (HOR.out.below hb)
      clear ho hb h0 h1 h2 h3 h4 h5 h6 h7 h8 h9 h10 g0 g1 g2 g3 g4 g5 g6 g7 g8 g9 g10
      generalize memB x = mb at *
      go_wp2_with (at_builtin; refine wpList_appM rfl (.tmp 26) (.tmp 27) 24 24 rfl _ _ rfl rfl (fun ty => app_m _ 24 24 5 ty i0 Tryz.underlying24 HI.out.1 HI.out.2.1 HI.out.2.2.1 HI.out.2.2.2 HO3.out (src_bytes (N := maxLen) Tryz.underlying24 HSM.out) (by omega) HB3.out.size) ?_; intro v1 w4 ho hg; have HO4 := Lib.hid ho; have HB4 := Lib.hid (OwnM.grown HB3.out hg HO3.out HB3.out.size (Nat.le_refl _)); clear ho hg)
      go_roundw
      case rel => exact ⟨k + 1, by omega, by go_num, Lib.hid (by rw [HS.out]; exact HO4.out), HB4⟩
      case measure => simp [intOf]; omega
    · obtain rfl : k = l.length := by omega
      have HAL := Lib.hid (arcTo_all l)
      have HLE := Lib.hid (HTL.out l.length)
      have HSO := Lib.hid (HOW.out.slice (N := maxLen) (Nat.le_trans HLE.out (by decide)))
      go_wp2_with (at_builtin; refine wpList_appM rfl (.const (.slice none 0 0)) (.tmp 30) 24 24 rfl _ _ rfl rfl (fun ty => app_m _ 24 24 5 ty i0 Tryz.underlying24 HI.out.1 HI.out.2.1 HI.out.2.2.1 HI.out.2.2.2 (OwnM.nil 5 _ wa.heap.size) (src_bytes (N := maxLen) Tryz.underlying24 HSO.out) (by have := HLE.out; simp; omega) HB.out.size) ?_; intro v1 w4 ho hg; have HO4 := Lib.hid ho; have HB4 := Lib.hid (OwnM.grown HB.out hg (OwnM.nil 5 _ wa.heap.size) HB.out.size (Nat.le_refl _)); clear ho hg)
      refine (EndM_any w4).mono ?_
      rintro e w5 ⟨v5, rfl, ho, hb⟩
      have HS5 := Lib.hid (ho.slice (N := maxLen) (by rw [zeros1024_len]; decide))
      have HB5 := Lib.hid (HB4.out.trans (hb.mono HB4.out.size))
      have HO5 := Lib.hid (HO4.out.below hb)
      clear ho hb
      go_wp2_with (at_builtin; refine wpList_appM rfl (.tmp 31) (.tmp 32) 24 24 rfl _ _ rfl rfl (fun ty => app_m _ 24 24 5 ty i0 Tryz.underlying24 HI.out.1 HI.out.2.1 HI.out.2.2.1 HI.out.2.2.2 HO5.out (src_bytes (N := maxLen) Tryz.underlying24 HS5.out) (by rw [zeros1024_len]; have := HLE.out; simp; omega) HB5.out.size) ?_; intro v6 w6 ho hg; have HO6 := Lib.hid ho; have HB6 := Lib.hid (OwnM.grown HB5.out hg HO5.out HB5.out.size (Nat.le_refl _)); clear ho hg)
      go_ret2
      rw [HF.out]
      exact ⟨_, rfl, by rw [← HAL.out]; exact HO6.out.mono HBA.out.size, HBA.out.trans (HB6.out.mono HBA.out.size)⟩
set_option maxRecDepth 100000 in
theorem ArchiveL_bad (v : Value) (l : List Ent) (w : World) (hM : MaxOk w) (hE : ¬ entsFault l = 0) (h : SliceC maxLen 11 (EntC maxLen) w [v] l) :
    Calls Tryz.prog 14 #[v] w (RetM 5 w (arcOf l)) := by
  have HF := Lib.hid (arcOf_bad hE)
  have HCK := Lib.hid (EntsCheck_any v l w hM h)
  generalize entsFault l = q at *
  have hq : (q != 0) = true := by rw [bne_iff_ne]; exact hE
  clear hM hE h
  go_enter Tryz.func14, Tryz.ntmps14
  go_wp2_with fail
  refine HCK.out.mono ?_
  rintro e wa ⟨rfl, hb⟩
  have HBA := Lib.hid hb
  clear hb
  go_wp2
  go_ret2
  rw [HF.out]
  exact ⟨_, rfl, OwnM.nil _ _ _, HBA.out⟩
set_option maxRecDepth 100000 in
theorem ArchiveL_nil (a : Option Addr) (cap : Nat) (w : World) (hcp : cap ≤ maxLen) :
    Calls Tryz.prog 14 #[.slice a 0 cap] w (RetM 5 w (arcOf [])) := by
  obtain ⟨i0, hi, hz0, hz1, hz2⟩ := info_parts info_byte2
  have HI := Lib.hid (And.intro hi (And.intro hz0 (And.intro hz1 hz2)))
  have HF := Lib.hid (arcOf_ok entsFault_nil)
  have HCK := Lib.hid (EntsCheck_nil a cap w)
  clear hi hz0 hz1 hz2 hcp
  go_enter Tryz.func14, Tryz.ntmps14
  go_wp2_with fail
  refine HCK.out.mono ?_
  rintro e wa ⟨rfl, hb⟩
  have HBA := Lib.hid hb
  clear hb
  go_wp2
  go_loop [5, 7, 8, 9, 17] (fun v _ _ _ i => i = .int .i64 0 ∧ v = .slice none 0 0) (fun _ _ _ _ _ => 0)
  case atStart => exact ⟨rfl, rfl⟩
  case round =>
      obtain ⟨rfl, rfl⟩ := hrel
      have HAL := Lib.hid (show arcTo [] 0 = arcBody [] from rfl)
      have HLE : Hid ((arcTo [] 0).length ≤ 1200000) := Lib.hid (by rw [arcTo_zero]; simp)
      have HB := Lib.hid (Below.refl wa.heap.size wa)
      have HSO : Hid (SliceC maxLen 1 ByteC wa [.slice none 0 0] (arcTo [] 0)) := Lib.hid ((OwnM.nil 5 wa 0).slice (by simp))
      go_wp2_with (at_builtin; refine wpList_appM rfl (.const (.slice none 0 0)) (.tmp 30) 24 24 rfl _ _ rfl rfl (fun ty => app_m _ 24 24 5 ty i0 Tryz.underlying24 HI.out.1 HI.out.2.1 HI.out.2.2.1 HI.out.2.2.2 (OwnM.nil 5 _ wa.heap.size) (src_bytes (N := maxLen) Tryz.underlying24 HSO.out) (by have := HLE.out; simp; omega) HB.out.size) ?_; intro v1 w4 ho hg; have HO4 := Lib.hid ho; have HB4 := Lib.hid (OwnM.grown HB.out hg (OwnM.nil 5 _ wa.heap.size) HB.out.size (Nat.le_refl _)); clear ho hg)
      refine (EndM_any w4).mono ?_
      rintro e w5 ⟨v5, rfl, ho, hb⟩
      have HS5 := Lib.hid (ho.slice (N := maxLen) (by rw [zeros1024_len]; decide))
      have HB5 := Lib.hid (HB4.out.trans (hb.mono HB4.out.size))
      have HO5 := Lib.hid (HO4.out.below hb)
      clear ho hb
      go_wp2_with (at_builtin; refine wpList_appM rfl (.tmp 31) (.tmp 32) 24 24 rfl _ _ rfl rfl (fun ty => app_m _ 24 24 5 ty i0 Tryz.underlying24 HI.out.1 HI.out.2.1 HI.out.2.2.1 HI.out.2.2.2 HO5.out (src_bytes (N := maxLen) Tryz.underlying24 HS5.out) (by rw [zeros1024_len]; have := HLE.out; simp; omega) HB5.out.size) ?_; intro v6 w6 ho hg; have HO6 := Lib.hid ho; have HB6 := Lib.hid (OwnM.grown HB5.out hg HO5.out HB5.out.size (Nat.le_refl _)); clear ho hg)
      go_ret2
      rw [HF.out]
      exact ⟨_, rfl, by rw [← HAL.out]; exact HO6.out.mono HBA.out.size, HBA.out.trans (HB6.out.mono HBA.out.size)⟩
theorem ArchiveL_any (v : Value) (l : List Ent) (w : World) (hM : MaxOk w) (hT : Pow10 w) (h : SliceC maxLen 11 (EntC maxLen) w [v] l) :
    Calls Tryz.prog 14 #[v] w (RetM 5 w (arcOf l)) := by
  by_cases hE : entsFault l = 0
  · rcases ents_cases h with ⟨a, cap, rfl, rfl, hcp, _⟩ | ⟨b, off, cap, rfl, h1, h2, h3, _, h4, h5⟩
    · exact ArchiveL_nil a cap w hcp
    · exact ArchiveL_at b off cap l w hM hT hE h1 h2 h3 h4 h5
  · exact ArchiveL_bad v l w hM hE h
theorem src_ints {P : Program} {w : World} {t : TypeId} {B : Nat} {v : Value} {l : List Int} {tx e' : TypeId} (hk : P.underlying tx = some (.slice e')) (h : OwnIs t w B v l) : Src P 1 tx v l.length (l.map (Value.int .i64)) w := by
  rcases h.form with ⟨rfl, rfl⟩ | ⟨g, cap, rfl, _, _, _, _⟩
  · exact Src.ofNil w hk 0
  · refine Src.ofSlice w hk ⟨g, 0, none⟩ l.length cap _ (by simp) (fun j u hu => ?_) (fun u hu => by obtain ⟨_, _, rfl⟩ := List.mem_map.1 hu; rfl)
    have hj : j < l.length := by
      rcases Nat.lt_or_ge j l.length with h | h
      · exact h
      · rw [List.getElem?_eq_none (by simpa using h)] at hu; cases hu
    have e : (⟨g, 0, none⟩ : Addr).add j = ⟨g, j, none⟩ := by unfold Addr.add; split <;> simp_all
    rw [e, h.cell hj, ← hu, pieceI_eq hj]
    simp [List.getElem?_eq_getElem hj]
theorem ints_zero (w : World) : OwnIs 3 (w.alloc (.cells #[.int .i64 0] 3)) w.heap.size (.slice (some ⟨w.heap.size, 0, none⟩) 1 1) [0] :=
  World.ownsRow_lit w #[.int .i64 0] 1 (Nat.le_refl _) (by decide) rfl
set_option maxRecDepth 100000 in
set_option maxHeartbeats 2000000 in
theorem PlacesL_at (b off cap : Nat) (l : List Ent) (w : World) (hM : MaxOk w) (hT : Pow10 w) (hE : entsFault l = 0) (hpos : 0 < l.length) (hle : l.length ≤ cap) (hm : cap ≤ maxLen) (hc : EntsAt w b off l) (ho : ∀ i, i < l.length → (ek l i).Ok maxLen w) :
    Calls Tryz.prog 15 #[.slice (some ⟨b, off, none⟩) l.length cap] w (RetIE 3 w (placesOf l)) := by
  obtain ⟨i0, hi, hz0, hz1, hz2⟩ := info_parts info_int
  have HI := Lib.hid (And.intro hi (And.intro hz0 (And.intro hz1 hz2)))
  have HF := Lib.hid (placesOf_ok hE)
  have HCK := Lib.hid (EntsCheck_at b off cap l w hM hpos hle hm hc ho)
  rw [hE] at HCK
  have HEN := Lib.hid (fun k (hk : k < l.length) => (stepE_zero ((entsFault_all hE).2 k hk)).1)
  have hfew := (entsFault_all hE).1
  have HC := Lib.hid hc
  have HOK := Lib.hid ho
  have HM := Lib.hid hM
  have HT := Lib.hid hT
  have HE := Lib.hid hE
  have hcm := hm
  unfold maxLen at hm
  clear hM hT hE hc ho hi hz0 hz1 hz2
  go_enter Tryz.func15, Tryz.ntmps15
  go_wp2_with fail
  refine HCK.out.mono ?_
  rintro e wa ⟨rfl, hb⟩
  have HBA := Lib.hid hb
  clear hb
  have HTL := Lib.hid (fun k => arcTo_le HE.out k)
  have HI0 := Lib.hid (ints_zero wa)
  have HBI := Lib.hid ((Below.refl wa.heap.size wa).alloc (Nat.le_refl _) (.cells #[.int .i64 0] 3))
  go_wp2
  go_loopw [5, 6, 8, 9, 10, 19] (fun at_ v _ _ _ i wr => ∃ k : Nat, k ≤ l.length ∧ i = .int .i64 k ∧ at_ = .int .i64 (arcTo l k).length ∧ Hid (OwnIs 3 wr wa.heap.size v (placeTo l k)) ∧ Hid (Below wa.heap.size wa wr)) (fun _ _ _ _ _ i _ => l.length - (intOf i).toNat)
  case atStart => exact ⟨0, by omega, rfl, rfl, Lib.hid (by rw [placeTo_zero]; exact HI0.out), HBI⟩
  case round =>
    obtain ⟨k, hk, rfl, rfl, HOW, HB⟩ := hrel
    by_cases hlt : k < l.length
    · have HS := Lib.hid (placeTo_succ l k)
      have HS2 := Lib.hid (arcTo_succ hlt)
      have HBW := Lib.hid (HBA.out.trans (HB.out.mono HBA.out.size))
      obtain ⟨h0, h1, h2, h3, h4, h5, h6, h7, h8, h9, h10⟩ := (HC.out.below HBW.out) k hlt
      have HLN := Lib.hid (fun W (hb : Below w.heap.size w W) => MemW_ok (ek l k) W (HM.out.below hb) ((HOK.out k hlt).below hb) (HEN.out k hlt) (HT.out.below hb))
      have hml := memB_le (HEN.out k hlt)
      have htl := HTL.out k
      have hpl := placeTo_len l k
      generalize ek l k = x at *
      have HBX := Lib.hid (HBW.out.alloc HBW.out.size (.cells #[.string x.path, .int .i64 x.kind, .string x.target, .int .i64 x.mt.mode, .int .i64 x.mt.uid, .int .i64 x.mt.gid, .string x.mt.user, .string x.mt.group, .int .i64 x.mt.second, .int .i64 x.mt.nano, .slice x.da x.data.length x.dcap] 26))
      have HBR := Lib.hid (HB.out.alloc HB.out.size (.cells #[.string x.path, .int .i64 x.kind, .string x.target, .int .i64 x.mt.mode, .int .i64 x.mt.uid, .int .i64 x.mt.gid, .string x.mt.user, .string x.mt.group, .int .i64 x.mt.second, .int .i64 x.mt.nano, .slice x.da x.data.length x.dcap] 26))
      have HOR := Lib.hid (HOW.out.below ((Below.refl wr.heap.size wr).alloc (Nat.le_refl _) (.cells #[.string x.path, .int .i64 x.kind, .string x.target, .int .i64 x.mt.mode, .int .i64 x.mt.uid, .int .i64 x.mt.gid, .string x.mt.user, .string x.mt.group, .int .i64 x.mt.second, .int .i64 x.mt.nano, .slice x.da x.data.length x.dcap] 26)))
      have HEB := Lib.hid (entAt_box wr x 26)
      obtain ⟨g0, g1, g2, g3, g4, g5, g6, g7, g8, g9, g10⟩ := HEB.out.zero
      go_wp2_with fail
      refine (HLN.out _ HBX.out).mono ?_
      rintro e w3 ⟨vm, rfl, ho, hb⟩
      simp only at ho ⊢
      obtain ⟨am, cm, hvm, _⟩ := ho.form
      subst hvm
      have HB3 := Lib.hid (HBR.out.trans (hb.mono HBR.out.size))
      have HO3 := Lib.hid (HOR.out.below hb)
      clear ho hb h0 h1 h2 h3 h4 h5 h6 h7 h8 h9 h10 g0 g1 g2 g3 g4 g5 g6 g7 g8 g9 g10
      have HSUM : Hid (((arcTo l k).length : Int) + ((memB x).length : Int) = ((arcTo l (k + 1)).length : Int)) := Lib.hid (by rw [HS2.out, List.length_append]; omega)
      generalize (memB x).length = mb at *
      generalize (arcTo l k).length = at_ at *
      have HSZ := Lib.hid (Nat.le_trans HB3.out.size ((Below.refl w3.heap.size w3).alloc (Nat.le_refl _) (.cells #[.int .i64 ((at_ : Int) + (mb : Int))] 3)).size)
      have HOA := Lib.hid (World.ownsRow.alloc HO3.out (.cells #[.int .i64 ((at_ : Int) + (mb : Int))] 3))
      have HBAL := Lib.hid (HB3.out.alloc HB3.out.size (.cells #[.int .i64 ((at_ : Int) + (mb : Int))] 3))
      go_wp2_with (at_builtin; refine wpList_app _ rfl (.tmp 32) (.tmp 34) 34 34 rfl _ _ rfl rfl (n := (placeTo l k).length) (fun ty => app_src _ _ _ _ wa.heap.size 3 i0 (.int .i64 0) 1 8 Tryz.underlying34 HI.out.1 HI.out.2.1 HI.out.2.2.1 HI.out.2.2.2 rfl (by decide) _ _ _ _ _ _ HOA.out (src_one w3 _ _ _ Tryz.underlying34 _ rfl) (by unfold maxLen; omega) (by omega) HSZ.out) ?_; intro v1 w4 ho hg _)
      have HO4 := Lib.hid (OwnIs.app (m := [((at_ : Int) + (mb : Int))]) ho)
      have HB4 := Lib.hid (below_app HBAL.out hg HOA.out HSZ.out)
      clear ho hg
      go_wp2
      go_roundw
      case rel => exact ⟨k + 1, by omega, by go_num, by rw [← HSUM.out], Lib.hid (by rw [HS.out, ← HSUM.out]; exact HO4.out), HB4⟩
      case measure => simp [intOf]; omega
    · obtain rfl : k = l.length := by omega
      have hpl := placeTo_len l l.length
      go_wp2_with (at_builtin; refine wpList_app _ rfl (.const (.slice none 0 0)) (.tmp 37) 34 34 rfl _ _ rfl rfl (n := 0) (fun ty => app_src _ 34 34 ty wa.heap.size 3 i0 (.int .i64 0) 1 8 Tryz.underlying34 HI.out.1 HI.out.2.1 HI.out.2.2.1 HI.out.2.2.2 rfl (by decide) _ _ _ _ _ _ (World.ownsRow_nil wr wa.heap.size 3 1) (src_ints Tryz.underlying34 HOW.out) (by rw [placeTo_len]; unfold maxLen; omega) (by rw [placeTo_len]; omega) HB.out.size) ?_; intro v1 w4 ho hg _; have HO4 := Lib.hid (OwnIs.app (l := []) (m := (placeTo l l.length)) ho); have HB4 := Lib.hid (below_app HB.out hg (World.ownsRow_nil wr wa.heap.size 3 1) HB.out.size); clear ho hg)
      go_ret2
      rw [HF.out]
      exact ⟨_, rfl, by have e := HO4.out; simp only [List.nil_append] at e; exact OwnIs.mono e HBA.out.size, HBA.out.trans (HB4.out.mono HBA.out.size)⟩
set_option maxRecDepth 100000 in
theorem PlacesL_bad (v : Value) (l : List Ent) (w : World) (hM : MaxOk w) (hE : ¬ entsFault l = 0) (h : SliceC maxLen 11 (EntC maxLen) w [v] l) :
    Calls Tryz.prog 15 #[v] w (RetIE 3 w (placesOf l)) := by
  have HF := Lib.hid (placesOf_bad hE)
  have HCK := Lib.hid (EntsCheck_any v l w hM h)
  generalize entsFault l = q at *
  have hq : (q != 0) = true := by rw [bne_iff_ne]; exact hE
  clear hM hE h
  go_enter Tryz.func15, Tryz.ntmps15
  go_wp2_with fail
  refine HCK.out.mono ?_
  rintro e wa ⟨rfl, hb⟩
  have HBA := Lib.hid hb
  clear hb
  go_wp2
  go_ret2
  rw [HF.out]
  exact ⟨_, rfl, World.ownsRow_nil _ _ _ 1, HBA.out⟩
set_option maxRecDepth 100000 in
theorem PlacesL_nil (a : Option Addr) (cap : Nat) (w : World) (hcp : cap ≤ maxLen) :
    Calls Tryz.prog 15 #[.slice a 0 cap] w (RetIE 3 w (placesOf [])) := by
  obtain ⟨i0, hi, hz0, hz1, hz2⟩ := info_parts info_int
  have HI := Lib.hid (And.intro hi (And.intro hz0 (And.intro hz1 hz2)))
  have HF := Lib.hid (placesOf_ok entsFault_nil)
  have HCK := Lib.hid (EntsCheck_nil a cap w)
  clear hi hz0 hz1 hz2 hcp
  go_enter Tryz.func15, Tryz.ntmps15
  go_wp2_with fail
  refine HCK.out.mono ?_
  rintro e wa ⟨rfl, hb⟩
  have HBA := Lib.hid hb
  clear hb
  have HI0 := Lib.hid (ints_zero wa)
  have HBI := Lib.hid ((Below.refl wa.heap.size wa).alloc (Nat.le_refl _) (.cells #[.int .i64 0] 3))
  go_wp2
  go_loopw [5, 6, 8, 9, 10, 19] (fun _ v _ _ _ i wr => i = .int .i64 0 ∧ Hid (OwnIs 3 wr wa.heap.size v (placeTo [] ([] : List Ent).length)) ∧ Hid (Below wa.heap.size wa wr)) (fun _ _ _ _ _ _ _ => 0)
  case atStart => exact ⟨rfl, Lib.hid (by rw [show ([] : List Ent).length = 0 from rfl, placeTo_zero]; exact HI0.out), HBI⟩
  case round =>
      obtain ⟨rfl, HOW, HB⟩ := hrel
      obtain ⟨l, hl⟩ : ∃ l : List Ent, l = [] := ⟨_, rfl⟩
      rw [← hl] at HOW HF ⊢
      have hfew : l.length ≤ 40 := by rw [hl]; simp
      have hpl := placeTo_len l l.length
      go_wp2_with (at_builtin; refine wpList_app _ rfl (.const (.slice none 0 0)) (.tmp 37) 34 34 rfl _ _ rfl rfl (n := 0) (fun ty => app_src _ 34 34 ty wa.heap.size 3 i0 (.int .i64 0) 1 8 Tryz.underlying34 HI.out.1 HI.out.2.1 HI.out.2.2.1 HI.out.2.2.2 rfl (by decide) _ _ _ _ _ _ (World.ownsRow_nil wr wa.heap.size 3 1) (src_ints Tryz.underlying34 HOW.out) (by rw [placeTo_len]; unfold maxLen; omega) (by rw [placeTo_len]; omega) HB.out.size) ?_; intro v1 w4 ho hg _; have HO4 := Lib.hid (OwnIs.app (l := []) (m := (placeTo l l.length)) ho); have HB4 := Lib.hid (below_app HB.out hg (World.ownsRow_nil wr wa.heap.size 3 1) HB.out.size); clear ho hg)
      go_ret2
      subst hl
      rw [HF.out]
      exact ⟨_, rfl, by have e := HO4.out; simp only [List.nil_append] at e; exact OwnIs.mono e HBA.out.size, HBA.out.trans (HB4.out.mono HBA.out.size)⟩
theorem PlacesL_any (v : Value) (l : List Ent) (w : World) (hM : MaxOk w) (hT : Pow10 w) (h : SliceC maxLen 11 (EntC maxLen) w [v] l) :
    Calls Tryz.prog 15 #[v] w (RetIE 3 w (placesOf l)) := by
  by_cases hE : entsFault l = 0
  · rcases ents_cases h with ⟨a, cap, rfl, rfl, hcp, _⟩ | ⟨b, off, cap, rfl, h1, h2, h3, _, h4, h5⟩
    · exact PlacesL_nil a cap w hcp
    · exact PlacesL_at b off cap l w hM hT hE h1 h2 h3 h4 h5
  · exact PlacesL_bad v l w hM hE h
end Go.Proofs.YtaffgndickdbiaaGreatDoor
/-
  creelref.Arc and creelref.ArcPlaces, walked.
-/
namespace Go.Creel
theorem addr_zeroE (a : Option Addr) : a.map (·.add 0) = a := by cases a <;> simp [Addr.add]
end Go.Creel
namespace Go.Proofs.YtaffgndickdbiaaGreatDoor
set_option linter.unusedVariables false
set_option linter.unusedSimpArgs false
open Go.Creel Go.RowKit
set_option maxRecDepth 100000 in
set_option maxHeartbeats 2000000 in
theorem ArcR_at (b off cap : Nat) (l : List Ent) (w : World) (hM : MaxOk w) (hT : Pow10 w) (hE : entsFault l = 0) (hpos : 0 < l.length) (hle : l.length ≤ cap) (hm : cap ≤ maxLen) (hc : EntsAt w b off l) (ho : ∀ i, i < l.length → (ek l i).Ok maxLen w) :
    Calls Tryz.prog 16 #[.slice (some ⟨b, off, none⟩) l.length cap] w (RetM 5 w (arcOf l)) := by
  obtain ⟨i0, hi, hz0, hz1, hz2⟩ := info_parts info_byte2
  have HI := Lib.hid (And.intro hi (And.intro hz0 (And.intro hz1 hz2)))
  have HF := Lib.hid (arcOf_ok hE)
  have HCK := Lib.hid (EntsFault_at b off cap l w hpos hle hm hc ho)
  rw [hE] at HCK
  have HEN := Lib.hid (fun k (hk : k < l.length) => (stepE_zero ((entsFault_all hE).2 k hk)).1)
  have hfew := (entsFault_all hE).1
  have HC := Lib.hid hc
  have HOK := Lib.hid ho
  have HM := Lib.hid hM
  have HT := Lib.hid hT
  have HE := Lib.hid hE
  have hcm := hm
  unfold maxLen at hm
  clear hM hT hE hc ho hi hz0 hz1 hz2
  go_enter Tryz.func16, Tryz.ntmps16
  go_wp2_with fail
  refine HCK.out.mono ?_
  rintro e wa ⟨rfl, hb⟩
  have HBA := Lib.hid hb
  clear hb
  have hmk : ∀ w : World, (Instr.makeSlice 24 (.int .i64 1024) (.int .i64 1024)).run Tryz.prog w = .ok (.slice (some ⟨w.heap.size, 0, none⟩) 1024 1024) (w.alloc (.cells (madeCells #[.int .u8 0] 1024) 5)) := fun w => run_make_bytes (P := Tryz.prog) w 24 5 i0 Tryz.underlying24 HI.out.1 HI.out.2.1 HI.out.2.2.1 HI.out.2.2.2 1024 (by omega)
  have HO0 : Hid (OwnM 5 (wa.alloc (.cells (madeCells #[.int .u8 0] 1024) 5)) wa.heap.size (.slice (some ⟨wa.heap.size, 0, none⟩) 1024 1024) zeros1024) := Lib.hid (OwnBs.marked (by
    have e := ownB_made (t := 5) wa 1024 (by decide)
    unfold OwnB at e
    unfold OwnBs zeros1024
    simp only [List.length_replicate] at e ⊢
    exact e))
  have HB0 := Lib.hid ((Below.refl wa.heap.size wa).alloc (Nat.le_refl _) (.cells (madeCells #[.int .u8 0] 1024) 5))
  have HTL := Lib.hid (fun k => arcFrom_le HE.out k)
  go_upto_region 6 with fail
  generalize wa.alloc (.cells (madeCells #[.int .u8 0] 1024) 5) = wz at *
  clear hmk
  go_loopw [5, 6, 7, 8] (fun v i _ _ wr => ∃ k : Nat, k ≤ l.length ∧ i = .int .i64 ((k : Int) - 1) ∧ Hid (OwnM 5 wr wa.heap.size v (arcFrom l k ++ zeros1024)) ∧ Hid (Below wa.heap.size wa wr)) (fun _ i _ _ _ => ((intOf i) + 1).toNat)
  case atStart => exact ⟨l.length, by omega, rfl, Lib.hid (by rw [arcFrom_all, List.nil_append]; exact HO0.out), HB0⟩
  case round =>
    obtain ⟨k, hk, rfl, HOW, HB⟩ := hrel
    by_cases hk0 : k = 0
    · subst hk0
      go_wp2
      go_ret2
      rw [HF.out]
      exact ⟨_, rfl, by have e := HOW.out; rw [arcFrom_zero] at e; exact e.mono HBA.out.size, HBA.out.trans (HB.out.mono HBA.out.size)⟩
    · obtain ⟨j, rfl⟩ : ∃ j, k = j + 1 := ⟨k - 1, by omega⟩
      have hjl : j < l.length := by omega
      have HS := Lib.hid (arcFrom_pred hjl)
      have HBW := Lib.hid (HBA.out.trans (HB.out.mono HBA.out.size))
      obtain ⟨h0, h1, h2, h3, h4, h5, h6, h7, h8, h9, h10⟩ := (HC.out.below HBW.out) j hjl
      have HLN := Lib.hid (fun W (hb : Below w.heap.size w W) => MemB_ok (ek l j) W ((HOK.out j hjl).below hb) (HEN.out j hjl) (HT.out.below hb))
      have hml := memB_le (HEN.out j hjl)
      have htl := HTL.out (j + 1)
      have e1 : (((j + 1 : Nat) : Int) - 1) = (j : Int) := by omega
      rw [e1]
      clear hk hk0
      generalize ek l j = x at *
      go_wp2_with fail
      refine (HLN.out _ HBW.out).mono ?_
      rintro e w3 ⟨vm, rfl, ho, hb⟩
      simp only at ho ⊢
      have HOV := Lib.hid (ho.mono HB.out.size)
      have HB3 := Lib.hid (HB.out.trans (hb.mono HB.out.size))
      have HSO := Lib.hid ((HOW.out.below hb).slice (N := maxLen) (by rw [List.length_append, zeros1024_len]; unfold maxLen; omega))
      clear ho hb h0 h1 h2 h3 h4 h5 h6 h7 h8 h9 h10
      generalize memB x = mb at *
      go_wp2_with (at_builtin; refine wpList_appM rfl (.tmp 30) (.tmp 31) 24 24 rfl _ _ rfl rfl (fun ty => app_m _ 24 24 5 ty i0 Tryz.underlying24 HI.out.1 HI.out.2.1 HI.out.2.2.1 HI.out.2.2.2 HOV.out (src_bytes (N := maxLen) Tryz.underlying24 HSO.out) (by rw [List.length_append, zeros1024_len]; omega) HB3.out.size) ?_; intro v1 w4 ho hg; have HO4 := Lib.hid ho; have HB4 := Lib.hid (OwnM.grown HB3.out hg HOV.out HB3.out.size (Nat.le_refl _)); clear ho hg)
      go_roundw
      case rel => exact ⟨j, by omega, by go_num, Lib.hid (by rw [HS.out, List.append_assoc]; exact HO4.out), HB4⟩
      case measure => simp only [intOf]; omega
set_option maxRecDepth 100000 in
theorem ArcR_bad (v : Value) (l : List Ent) (w : World) (hM : MaxOk w) (hE : ¬ entsFault l = 0) (h : SliceC maxLen 11 (EntC maxLen) w [v] l) :
    Calls Tryz.prog 16 #[v] w (RetM 5 w (arcOf l)) := by
  have HF := Lib.hid (arcOf_bad hE)
  have HCK := Lib.hid (EntsFault_any v l w h)
  generalize entsFault l = q at *
  have hq : (q != 0) = true := by rw [bne_iff_ne]; exact hE
  clear hM hE h
  go_enter Tryz.func16, Tryz.ntmps16
  go_wp2_with fail
  refine HCK.out.mono ?_
  rintro e wa ⟨rfl, hb⟩
  have HBA := Lib.hid hb
  clear hb
  go_wp2
  go_ret2
  rw [HF.out]
  exact ⟨_, rfl, OwnM.nil _ _ _, HBA.out⟩
set_option maxRecDepth 100000 in
theorem ArcR_nil (a : Option Addr) (cap : Nat) (w : World) (hcp : cap ≤ maxLen) :
    Calls Tryz.prog 16 #[.slice a 0 cap] w (RetM 5 w (arcOf [])) := by
  obtain ⟨i0, hi, hz0, hz1, hz2⟩ := info_parts info_byte2
  have HI := Lib.hid (And.intro hi (And.intro hz0 (And.intro hz1 hz2)))
  have HF := Lib.hid (arcOf_ok entsFault_nil)
  have HCK := Lib.hid ((EntsFault_nil a cap w).mono fun e w2 (hh : e = .returned (.int .i64 0) ∧ w = w2) => (⟨hh.1, by rw [← hh.2]; exact Below.refl _ _⟩ : e = .returned (.int .i64 0) ∧ Below w.heap.size w w2))
  clear hi hz0 hz1 hz2 hcp
  go_enter Tryz.func16, Tryz.ntmps16
  go_wp2_with fail
  refine HCK.out.mono ?_
  rintro e wa ⟨rfl, hb⟩
  have HBA := Lib.hid hb
  clear hb
  have hmk : ∀ w : World, (Instr.makeSlice 24 (.int .i64 1024) (.int .i64 1024)).run Tryz.prog w = .ok (.slice (some ⟨w.heap.size, 0, none⟩) 1024 1024) (w.alloc (.cells (madeCells #[.int .u8 0] 1024) 5)) := fun w => run_make_bytes (P := Tryz.prog) w 24 5 i0 Tryz.underlying24 HI.out.1 HI.out.2.1 HI.out.2.2.1 HI.out.2.2.2 1024 (by omega)
  have HO0 : Hid (OwnM 5 (wa.alloc (.cells (madeCells #[.int .u8 0] 1024) 5)) wa.heap.size (.slice (some ⟨wa.heap.size, 0, none⟩) 1024 1024) zeros1024) := Lib.hid (OwnBs.marked (by
    have e := ownB_made (t := 5) wa 1024 (by decide)
    unfold OwnB at e
    unfold OwnBs zeros1024
    simp only [List.length_replicate] at e ⊢
    exact e))
  have HB0 := Lib.hid ((Below.refl wa.heap.size wa).alloc (Nat.le_refl _) (.cells (madeCells #[.int .u8 0] 1024) 5))
  go_upto_region 6 with fail
  generalize wa.alloc (.cells (madeCells #[.int .u8 0] 1024) 5) = wz at *
  clear hmk
  go_loopw [5, 6, 7, 8] (fun v i _ _ wr => i = .int .i64 (-1) ∧ Hid (OwnM 5 wr wa.heap.size v zeros1024) ∧ Hid (Below wa.heap.size wa wr)) (fun _ _ _ _ _ => 0)
  case atStart => exact ⟨rfl, HO0, HB0⟩
  case round =>
    obtain ⟨rfl, HOW, HB⟩ := hrel
    go_wp2
    go_ret2
    rw [HF.out]
    exact ⟨_, rfl, HOW.out.mono HBA.out.size, HBA.out.trans (HB.out.mono HBA.out.size)⟩
theorem ArcR_any (v : Value) (l : List Ent) (w : World) (hM : MaxOk w) (hT : Pow10 w) (h : SliceC maxLen 11 (EntC maxLen) w [v] l) :
    Calls Tryz.prog 16 #[v] w (RetM 5 w (arcOf l)) := by
  by_cases hE : entsFault l = 0
  · rcases ents_cases h with ⟨a, cap, rfl, rfl, hcp, _⟩ | ⟨b, off, cap, rfl, h1, h2, h3, _, h4, h5⟩
    · exact ArcR_nil a cap w hcp
    · exact ArcR_at b off cap l w hM hT hE h1 h2 h3 h4 h5
  · exact ArcR_bad v l w hM hE h
theorem run_takeE (w : World) (a : Option Addr) (n cap i : Nat) (h : i ≤ n) (hc : n ≤ cap) : (Instr.slice 32 (.slice a n cap) none (some (.int .i64 i)) none).run Tryz.prog w = .ok (.slice a i cap) w := by
  rw [run_slice_h w 32 a n cap (by kernel_rfl) .i64 i (by omega) (by omega)]
  have hs : (sizeOf (Tryz.prog.elem 32)).run Tryz.prog w = .ok 11 w := by kernel_rfl
  rw [hs]
  simp only [Result.andThen, sliced, Int.toNat_natCast, Nat.zero_mul, addr_zeroE, ite_self, Nat.sub_zero]
set_option maxRecDepth 100000 in
set_option maxHeartbeats 2000000 in
theorem ArcPlacesR_at (b off cap : Nat) (l : List Ent) (w : World) (hM : MaxOk w) (hT : Pow10 w) (hE : entsFault l = 0) (hpos : 0 < l.length) (hle : l.length ≤ cap) (hm : cap ≤ maxLen) (hc : EntsAt w b off l) (ho : ∀ i, i < l.length → (ek l i).Ok maxLen w) (h : SliceC maxLen 11 (EntC maxLen) w [.slice (some ⟨b, off, none⟩) l.length cap] l) :
    Calls Tryz.prog 17 #[.slice (some ⟨b, off, none⟩) l.length cap] w (RetIE 3 w (placesOf l)) := by
  obtain ⟨i0, hi, hz0, hz1, hz2⟩ := info_parts info_int
  have HI := Lib.hid (And.intro hi (And.intro hz0 (And.intro hz1 hz2)))
  have HF := Lib.hid (placesOf_ok hE)
  have HCK := Lib.hid (EntsFault_at b off cap l w hpos hle hm hc ho)
  rw [hE] at HCK
  have HEN := Lib.hid (fun k (hk : k < l.length) => (stepE_zero ((entsFault_all hE).2 k hk)).1)
  have hfew := (entsFault_all hE).1
  have HC := Lib.hid hc
  have HOK := Lib.hid ho
  have HM := Lib.hid hM
  have HT := Lib.hid hT
  have HE := Lib.hid hE
  have hcm := hm
  unfold maxLen at hm
  clear hM hT hE hc ho hi hz0 hz1 hz2
  go_enter Tryz.func17, Tryz.ntmps17
  go_wp2_with fail
  refine HCK.out.mono ?_
  rintro e wa ⟨rfl, hb⟩
  have HBA := Lib.hid hb
  clear hb
  have H := Lib.hid h
  clear h
  have HTL := Lib.hid (fun k => arcTo_le HE.out k)
  have HI0 := Lib.hid (ints_zero wa)
  have HBI := Lib.hid ((Below.refl wa.heap.size wa).alloc (Nat.le_refl _) (.cells #[.int .i64 0] 3))
  go_wp2
  go_loopw [5, 6, 7, 8] (fun v i _ _ wr => ∃ k : Nat, k ≤ l.length ∧ i = .int .i64 ((k : Int) + 1) ∧ Hid (OwnIs 3 wr wa.heap.size v (placeTo l k)) ∧ Hid (Below wa.heap.size wa wr)) (fun _ i _ _ _ => l.length + 1 - (intOf i).toNat)
  case atStart => exact ⟨0, by omega, rfl, Lib.hid (by rw [placeTo_zero]; exact HI0.out), HBI⟩
  case round =>
    obtain ⟨k, hk, rfl, HOW, HB⟩ := hrel
    have hpl := placeTo_len l k
    by_cases hlt : k < l.length
    · have HS := Lib.hid (placeTo_succ l k)
      have HBW := Lib.hid (HBA.out.trans (HB.out.mono HBA.out.size))
      have hsl := fun W => run_takeE W (some ⟨b, off, none⟩) l.length cap (k + 1) (by omega) (by omega)
      have HTK := Lib.hid (ArcR_any _ (l.take (k + 1)) wr (HM.out.below HBW.out) (HT.out.below HBW.out) (ents_take (i := k + 1) (ents_below H.out HBW.out) (by omega)))
      rw [arcOf_ok (entsFault_take HE.out (k + 1))] at HTK
      have htl := HTL.out (k + 1)
      have HLN : Hid ((arcBody (l.take (k + 1)) ++ zeros1024).length = (arcTo l (k + 1)).length + 1024) := Lib.hid (by rw [List.length_append, zeros1024_len]; rfl)
      have e1 : ((k : Int) + 1) = ((k + 1 : Nat) : Int) := by omega
      rw [e1]
      have hle2 : k + 1 ≤ l.length := by omega
      generalize hjk : k + 1 = j at *
      go_wp2_with fail
      refine HTK.out.mono ?_
      rintro e w3 ⟨vm, rfl, ho, hb⟩
      simp only at ho ⊢
      obtain ⟨am, cm, hvm, _⟩ := ho.form
      rw [HLN.out] at hvm
      subst hvm
      have HB3 := Lib.hid (HB.out.trans (hb.mono HB.out.size))
      have HO3 := Lib.hid (HOW.out.below hb)
      clear ho hb
      generalize (arcTo l j).length = at_ at *
      have e2 : (((at_ + 1024 : Nat) : Int) - 1024) = (at_ : Int) := by omega
      have HSZ := Lib.hid (Nat.le_trans HB3.out.size ((Below.refl w3.heap.size w3).alloc (Nat.le_refl _) (.cells #[.int .i64 (at_ : Int)] 3)).size)
      have HOA := Lib.hid (World.ownsRow.alloc HO3.out (.cells #[.int .i64 (at_ : Int)] 3))
      have HBAL := Lib.hid (HB3.out.alloc HB3.out.size (.cells #[.int .i64 (at_ : Int)] 3))
      go_wp2_with (at_builtin; refine wpList_app _ rfl (.tmp 28) (.tmp 32) 34 34 rfl _ _ rfl rfl (n := (placeTo l k).length) (fun ty => app_src _ _ _ _ wa.heap.size 3 i0 (.int .i64 0) 1 8 Tryz.underlying34 HI.out.1 HI.out.2.1 HI.out.2.2.1 HI.out.2.2.2 rfl (by decide) _ _ _ _ _ _ HOA.out (src_one w3 _ _ _ Tryz.underlying34 _ rfl) (by unfold maxLen; omega) (by omega) HSZ.out) ?_; intro v1 w4 ho hg _)
      have HO4 := Lib.hid (OwnIs.app (m := [(at_ : Int)]) ho)
      have HB4 := Lib.hid (below_app HBAL.out hg HOA.out HSZ.out)
      clear ho hg
      go_wp2
      go_roundw
      case rel => exact ⟨j, by omega, by go_num, Lib.hid (by rw [HS.out]; exact HO4.out), HB4⟩
      case measure => simp only [intOf]; omega
    · obtain rfl : k = l.length := by omega
      go_wp2
      go_ret2
      rw [HF.out]
      exact ⟨_, rfl, OwnIs.mono HOW.out HBA.out.size, HBA.out.trans (HB.out.mono HBA.out.size)⟩
set_option maxRecDepth 100000 in
theorem ArcPlacesR_bad (v : Value) (l : List Ent) (w : World) (hM : MaxOk w) (hE : ¬ entsFault l = 0) (h : SliceC maxLen 11 (EntC maxLen) w [v] l) :
    Calls Tryz.prog 17 #[v] w (RetIE 3 w (placesOf l)) := by
  have HF := Lib.hid (placesOf_bad hE)
  have HCK := Lib.hid (EntsFault_any v l w h)
  generalize entsFault l = q at *
  have hq : (q != 0) = true := by rw [bne_iff_ne]; exact hE
  clear hM hE h
  go_enter Tryz.func17, Tryz.ntmps17
  go_wp2_with fail
  refine HCK.out.mono ?_
  rintro e wa ⟨rfl, hb⟩
  have HBA := Lib.hid hb
  clear hb
  go_wp2
  go_ret2
  rw [HF.out]
  exact ⟨_, rfl, World.ownsRow_nil _ _ _ 1, HBA.out⟩
set_option maxRecDepth 100000 in
theorem ArcPlacesR_nil (a : Option Addr) (cap : Nat) (w : World) (hcp : cap ≤ maxLen) :
    Calls Tryz.prog 17 #[.slice a 0 cap] w (RetIE 3 w (placesOf [])) := by
  have HF := Lib.hid (placesOf_ok entsFault_nil)
  have HCK := Lib.hid ((EntsFault_nil a cap w).mono fun e w2 (hh : e = .returned (.int .i64 0) ∧ w = w2) => (⟨hh.1, by rw [← hh.2]; exact Below.refl _ _⟩ : e = .returned (.int .i64 0) ∧ Below w.heap.size w w2))
  clear hcp
  go_enter Tryz.func17, Tryz.ntmps17
  go_wp2_with fail
  refine HCK.out.mono ?_
  rintro e wa ⟨rfl, hb⟩
  have HBA := Lib.hid hb
  clear hb
  have HI0 := Lib.hid (ints_zero wa)
  have HBI := Lib.hid ((Below.refl wa.heap.size wa).alloc (Nat.le_refl _) (.cells #[.int .i64 0] 3))
  go_wp2
  go_loopw [5, 6, 7, 8] (fun v i _ _ wr => i = .int .i64 1 ∧ Hid (OwnIs 3 wr wa.heap.size v [0]) ∧ Hid (Below wa.heap.size wa wr)) (fun _ _ _ _ _ => 0)
  case atStart => exact ⟨rfl, HI0, HBI⟩
  case round =>
    obtain ⟨rfl, HOW, HB⟩ := hrel
    go_wp2
    go_ret2
    rw [HF.out]
    exact ⟨_, rfl, by rw [show ([] : List Ent).length = 0 from rfl, placeTo_zero]; exact OwnIs.mono HOW.out HBA.out.size, HBA.out.trans (HB.out.mono HBA.out.size)⟩
theorem ArcPlacesR_any (v : Value) (l : List Ent) (w : World) (hM : MaxOk w) (hT : Pow10 w) (h : SliceC maxLen 11 (EntC maxLen) w [v] l) :
    Calls Tryz.prog 17 #[v] w (RetIE 3 w (placesOf l)) := by
  by_cases hE : entsFault l = 0
  · rcases ents_cases h with ⟨a, cap, rfl, rfl, hcp, _⟩ | ⟨b, off, cap, rfl, h1, h2, h3, _, h4, h5⟩
    · exact ArcPlacesR_nil a cap w hcp
    · exact ArcPlacesR_at b off cap l w hM hT hE h1 h2 h3 h4 h5 h
  · exact ArcPlacesR_bad v l w hM hE h
end Go.Proofs.YtaffgndickdbiaaGreatDoor
/-
  The world at a law's call holds the library's bound on the lengths that it looks for.
-/
namespace Go.Proofs.YtaffgndickdbiaaGreatDoor
set_option linter.unusedVariables false
open Go.Creel Go.RowKit
theorem maxOk_of (w : World) (h : w.ShapedOpen Tryz.prog) : MaxOk w := by
  have hc : ∃ m, w.cell? ⟨2, 0, none⟩ = some (.int .i64 m) :=
    Go.Proofs.cell_of_shapedOpen_int (zero := #[.int .i64 0]) (t := 3) h (of_decide_eq_true (by kernel_rfl)) (by kernel_rfl) rfl (by kernel_rfl) (by kernel_rfl) Tryz.underlying3
  refine ⟨?_, hc⟩
  obtain ⟨m, hm⟩ := hc
  rcases Nat.lt_or_ge 2 w.heap.size with h0 | h0
  · exact h0
  · unfold World.cell? at hm
    rw [Array.getElem?_eq_none (by simpa using h0)] at hm
    simp at hm
end Go.Proofs.YtaffgndickdbiaaGreatDoor
/-
  A world that holds the library's tables, for the witness of a row that lists them.
-/
namespace Go.Creel
/-- a datum of numbers, arrays and structs of these, as cells -/
def dcells : Nat → DataW Unit → List Value
  | 0, _ => []
  | _ + 1, .lit (.int k n) => [.int k n]
  | m + 1, .agg ps => ps.flatMap (dcells m)
  | _ + 1, _ => []
/-- the world with these variables laid -/
def layAll (w : World) (l : List (Nat × DataW Unit)) : World :=
  { w with heap := l.foldl (fun h x => h.modify x.1 fun
    | .cells _ t fr => .cells (dcells 4 x.2).toArray t fr
    | o => o) w.heap }
/-- the world with an error of the library's made: one block more, and the variable that points there -/
def layErr (w : World) (x : Nat × TypeId × TypeId × List UInt8) : World :=
  { w with heap := (w.heap.push (.cells #[.string ⟨x.2.2.2.toArray⟩] x.2.2.1 (0, 0))).modify x.1 fun
    | .cells _ t fr => .cells #[.iface x.2.1 (.pointer (some ⟨w.heap.size, 0, none⟩))] t fr
    | o => o }
end Go.Creel
/-
  The law WriteArchives, walked.
-/
namespace Go.Creel
theorem arcOf_le (l : List Ent) : (arcOf l).1.length ≤ 2000000 := by
  by_cases h : entsFault l = 0
  · rw [arcOf_ok h]
    have h1 := arcTo_le h l.length
    rw [arcTo_all] at h1
    simp only [List.length_append, zeros1024_len]; omega
  · rw [arcOf_bad h]; simp
theorem placesOf_le (l : List Ent) : (placesOf l).1.length ≤ 8000000000 := by
  by_cases h : entsFault l = 0
  · rw [placesOf_ok h]
    have h1 := (entsFault_all h).1
    simp only [placeTo_len]; omega
  · rw [placesOf_bad h]; simp
end Go.Creel
namespace Go.Proofs.YtaffgndickdbiaaGreatDoor
set_option linter.unusedVariables false
set_option linter.unusedSimpArgs false
open Go.Creel Go.RowKit
theorem pow10_laid_wa (w : World) (h : laidMetH Tryz.prog Rows.writeArchivesRow.laid w) : Pow10 w := by
  obtain ⟨ps, hp, _⟩ := (show laidMet Tryz.prog Rows.writeArchivesRow.laid w from h)
  exact tabIs_laid (g := 3) (t := 249) (e := 220) (n := 20) (by kernel_rfl) (by kernel_rfl) (by kernel_rfl) (by kernel_rfl) (by kernel_rfl) (by kernel_rfl) _ ps 2 hp rfl
set_option maxRecDepth 100000 in
set_option maxHeartbeats 2000000 in
theorem writeArchives_walk (w : World) (v : Value) (l : List Ent) (hl : SliceC maxLen 11 (EntC maxLen) w [v] l) (hsh : w.ShapedOpen Tryz.prog) (hL : laidMetH Tryz.prog Rows.writeArchivesRow.laid w) :
    Calls Tryz.prog 4 #[v] w fun e w' => e = .returned (.bool true) ∧ Below w.heap.size w w' := by
  have HM := Lib.hid (maxOk_of w hsh)
  have HT := Lib.hid (pow10_laid_wa w hL)
  have H := Lib.hid hl
  have H1 := Lib.hid (fun W (hb : Below w.heap.size w W) => ArchiveL_any v l W (HM.out.below hb) (HT.out.below hb) (ents_below H.out hb))
  have H2 := Lib.hid (fun W (hb : Below w.heap.size w W) => PlacesL_any v l W (HM.out.below hb) (HT.out.below hb) (ents_below H.out hb))
  have H3 := Lib.hid (fun W (hb : Below w.heap.size w W) => ArcR_any v l W (HM.out.below hb) (HT.out.below hb) (ents_below H.out hb))
  have H4 := Lib.hid (fun W (hb : Below w.heap.size w W) => ArcPlacesR_any v l W (HM.out.below hb) (HT.out.below hb) (ents_below H.out hb))
  have HL1 := Lib.hid (arcOf_le l)
  have HL2 := Lib.hid (placesOf_le l)
  clear hsh hL hl
  generalize arcOf l = p at *
  generalize placesOf l = q at *
  obtain ⟨pl, pe⟩ := p
  obtain ⟨ql, qe⟩ := q
  go_enter Tryz.func4, Tryz.ntmps4
  go_wp2_with fail
  refine (H1.out _ (Below.refl _ _)).mono ?_
  rintro e w1 ⟨v1, rfl, ho, hb⟩
  have HB1 := Lib.hid hb
  have HO1 := Lib.hid ho
  clear hb ho
  go_wp2_with fail
  refine (H2.out _ HB1.out).mono ?_
  rintro e w2 ⟨v2, rfl, ho, hb⟩
  have HB2 := Lib.hid (HB1.out.trans (hb.mono HB1.out.size))
  have HO2 := Lib.hid (HO1.out.below hb)
  have HP2 := Lib.hid ho
  clear hb ho
  go_wp2_with fail
  refine (H3.out _ HB2.out).mono ?_
  rintro e w3 ⟨v3, rfl, ho, hb⟩
  have HB3 := Lib.hid (HB2.out.trans (hb.mono HB2.out.size))
  have HO3 := Lib.hid (HO2.out.below hb)
  have HP3 := Lib.hid (HP2.out.below hb)
  have HQ3 := Lib.hid ho
  clear hb ho
  go_wp2_with fail
  refine (H4.out _ HB3.out).mono ?_
  rintro e w4 ⟨v4, rfl, ho, hb⟩
  have HB4 := Lib.hid (HB3.out.trans (hb.mono HB3.out.size))
  have HS1 := Lib.hid ((HO3.out.below hb).slice (N := maxLen) (Nat.le_trans HL1.out (by decide)))
  have HS3 := Lib.hid ((HQ3.out.below hb).slice (N := maxLen) (Nat.le_trans HL1.out (by decide)))
  have HP4 := Lib.hid (HP3.out.below hb)
  have HR4 := Lib.hid ho
  clear hb ho
  go_wp2_with fail
  refine (sameBytes_eq _ _ _ _ HS1.out HS3.out).mono ?_
  rintro e w5 ⟨rfl, rfl⟩
  go_wp2_with fail
  refine (lawInts_eq _ _ _ _ _ _ HL2.out HP4.out HR4.out).mono ?_
  rintro e w6 ⟨rfl, hb⟩
  have HB6 := Lib.hid (HB4.out.trans (hb.mono HB4.out.size))
  clear hb
  go_wp2
  go_ret
  exact ⟨rfl, HB6.out⟩
end Go.Proofs.YtaffgndickdbiaaGreatDoor
