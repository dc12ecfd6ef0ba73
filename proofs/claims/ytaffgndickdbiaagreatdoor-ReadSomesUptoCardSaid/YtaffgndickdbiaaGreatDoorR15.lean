/-
  Texts: PadCut, CutBy.
-/
import Derived.Test.YtaffgndickdbiaaGreatDoorR13
import Derived.Deep.RegionLaw
set_option linter.unusedVariables false
set_option linter.unusedSimpArgs false
set_option linter.unusedSectionVars false
namespace Go.Creel
open Go.RowKit
def zeroB (l : List UInt8) (n k : Nat) : Prop := ∀ i, n ≤ i → i < k → bl l i = 0
open Classical in
noncomputable def padCut (l : List UInt8) (n : Int) : List UInt8 × List UInt8 × Int :=
  if n < 0 ∨ 8589934591 < n then ([], [], 4)
  else if l.length < (n.toNat + 511) / 512 * 512 then ([], [], 7)
  else if zeroB l n.toNat ((n.toNat + 511) / 512 * 512) then (l.take n.toNat, l.drop ((n.toNat + 511) / 512 * 512), 0)
  else ([], [], 3)
theorem slice_sub {N : Nat} {w : World} {b off cap : Nat} {l : List UInt8} (hle : l.length ≤ cap) (hm : cap ≤ maxLen) (hN : l.length ≤ N) (hc : ∀ i, i < l.length → w.cell? ⟨b, off + i, none⟩ = some (.int .u8 (bl l i)))
    (i j : Nat) (hj : i + j ≤ l.length) : SliceC N 1 ByteC w [.slice (some ⟨b, off + i, none⟩) j (cap - i)] ((l.drop i).take j) := by
  have hlen : ((l.drop i).take j).length = j := by simp; omega
  refine ⟨some ⟨b, off + i, none⟩, cap - i, by rw [hlen], by omega, by omega, by omega, (fun h => by cases h), fun _ => ⟨b, off + i, rfl, fun m hm => ?_⟩⟩
  rw [hlen] at hm
  refine ⟨[byteV ((l.drop i).take j)[m]], rfl, fun q hq => ?_, rfl⟩
  obtain rfl : q = 0 := by omega
  have := hc (i + m) (by omega)
  rw [show off + i + m * 1 + 0 = off + (i + m) by omega, this]
  simp [byteV, bl, List.getD_eq_getElem?_getD, List.getElem?_eq_getElem (show i + m < l.length by omega)]
theorem sub_zero {l : List UInt8} {n k : Nat} (hk : k ≤ l.length) : (∀ x ∈ (l.drop n).take (k - n), x = 0) ↔ zeroB l n k := by
  constructor
  · intro h i h1 h2
    have hx : l[i]'(by omega) ∈ (l.drop n).take (k - n) := by
      rw [List.mem_iff_getElem]
      refine ⟨i - n, by simp; omega, ?_⟩
      simp [show n + (i - n) = i by omega]
    simp [bl, List.getD_eq_getElem?_getD, List.getElem?_eq_getElem (show i < l.length by omega), h _ hx]
  · intro h x hx
    obtain ⟨i, hi, rfl⟩ := List.getElem_of_mem hx
    have hi' := hi
    simp at hi'
    have := h (n + i) (by omega) (by omega)
    simp [bl, List.getD_eq_getElem?_getD, List.getElem?_eq_getElem (show n + i < l.length by omega)] at this
    simp
    exact UInt8.toNat_inj.1 this
def RetBB (t : TypeId) (w : World) (p : List UInt8 × List UInt8 × Int) (e : Ending) (w' : World) : Prop :=
  ∃ v u, e = .returned (.tuple #[v, u, .int .i64 p.2.2]) ∧ OwnBs t w' w.heap.size v p.1 ∧ OwnBs t w' w.heap.size u p.2.1 ∧ Below w.heap.size w w'
theorem RetBB.err {t : TypeId} {w w' : World} {p : List UInt8 × List UInt8 × Int} {n : Int} (h : p = ([], [], n)) (hb : Below w.heap.size w w') : RetBB t w p (.returned (.tuple #[.slice none 0 0, .slice none 0 0, .int .i64 n])) w' := by
  rw [h]
  exact ⟨_, _, rfl, OwnBs.nil _ _ _, OwnBs.nil _ _ _, hb⟩
end Go.Creel
namespace Go.Proofs.YtaffgndickdbiaaGreatDoor
open Go.Creel Go.RowKit
theorem TrimZ_yes {s : ByteArray} (h : ∀ x ∈ s.data.toList, x = 0) (w : World) (hs : s.size ≤ maxLen) :
    Calls Tryz.prog 130 #[.string s, .string ⟨#[0]⟩] w fun e w' => e = .returned (.string ⟨#[]⟩) ∧ Below w.heap.size w w' := by
  refine (Trim0_any s w hs).mono ?_
  rintro e w' ⟨rfl, hb⟩
  rw [trim_empty.2 h]
  exact ⟨rfl, hb⟩
theorem TrimZ_no {s : ByteArray} (h : ¬ ∀ x ∈ s.data.toList, x = 0) (w : World) (hs : s.size ≤ maxLen) :
    Calls Tryz.prog 130 #[.string s, .string ⟨#[0]⟩] w fun e w' => Below w.heap.size w w' ∧ ∃ t : ByteArray, e = .returned (.string t) ∧ t.toList.isEmpty = false := by
  refine (Trim0_any s w hs).mono ?_
  rintro e w' ⟨rfl, hb⟩
  refine ⟨hb, _, rfl, empty_f ?_⟩
  rw [ofL_size]
  intro e
  exact h (trim_empty.1 (List.eq_nil_of_length_eq_zero e))
theorem slice_zero {N : Nat} (w : World) (a : Addr) (c : Nat) (hc : c ≤ maxLen) : SliceC N 1 ByteC w [.slice (some a) 0 c] [] :=
  ⟨some a, c, rfl, by simp, hc, by simp, (fun h => by cases h), fun h => absurd h (by simp)⟩
theorem _root_.Go.Creel.OwnBs.below {t : TypeId} {w w' : World} {B : Nat} {v : Value} {l : List UInt8} (h : OwnBs t w B v l) (hb : Below w.heap.size w w') : OwnBs t w' B v l := by
  rcases h.2 with ⟨rfl, h0⟩ | ⟨g, cap, cur, rfl, hbg, hg, hnc, hcm, hcs, htake⟩
  · exact ⟨h.1, .inl ⟨rfl, h0⟩⟩
  · have hlt : g < w.heap.size := (Array.getElem?_eq_some_iff.1 hg).1
    exact ⟨h.1, .inr ⟨g, cap, cur, rfl, hbg, (hb.block g hlt).trans hg, hnc, hcm, hcs, htake⟩⟩
theorem _root_.Go.Creel.OwnBs.mono {t : TypeId} {w : World} {B B' : Nat} {v : Value} {l : List UInt8} (h : OwnBs t w B v l) (hb : B' ≤ B) : OwnBs t w B' v l := by
  rcases h.2 with ⟨rfl, h0⟩ | ⟨g, cap, cur, rfl, hbg, hg, hnc, hcm, hcs, htake⟩
  · exact ⟨h.1, .inl ⟨rfl, h0⟩⟩
  · exact ⟨h.1, .inr ⟨g, cap, cur, rfl, Nat.le_trans hb hbg, hg, hnc, hcm, hcs, htake⟩⟩
theorem _root_.Go.Creel.blk_ne {v v0 : Value} {b n : Nat} (h : v.ownBlock = v0.ownBlock ∨ ∃ g, v.ownBlock = some g ∧ n ≤ g) (h0 : v0.ownBlock ≠ some b) (hn : b < n) : v.ownBlock = none ∨ v.ownBlock ≠ some b := by
  rcases h with h | ⟨g, h, hg⟩
  · exact .inr (by rw [h]; exact h0)
  · exact .inr (by rw [h]; intro e; cases e; omega)
theorem _root_.Go.Creel.own_lt {t : TypeId} {w : World} {B : Nat} {v : Value} {l : List UInt8} (h : OwnBs t w B v l) : v.ownBlock = none ∨ v.ownBlock ≠ some w.heap.size := by
  rcases h.form with ⟨rfl, _⟩ | ⟨g, cap, rfl, h⟩
  · exact .inl rfl
  · refine .inr ?_
    have := (OwnB.lt h).2
    intro e
    simp [Value.ownBlock] at e
    omega
set_option maxRecDepth 100000 in
set_option maxHeartbeats 8000000 in
theorem PadCutL_bad (v : Value) (l : List UInt8) (n : Int) (w : World) (hn : i64 n) (h : n < 0 ∨ 8589934591 < n) :
    Calls Tryz.prog 118 #[v, .int .i64 n] w (RetBB 5 w (padCut l n)) := by
  have HK := Lib.hid (fun (w : World) => Blocks_any n w hn)
  have HP := Lib.hid (show padBlocks n = (0, 4) by unfold padBlocks; rw [if_neg (by omega)])
  have HF := Lib.hid (show padCut l n = ([], [], 4) by unfold padCut; rw [if_pos h])
  clear h hn
  go_enter Tryz.func118, Tryz.ntmps118
  go_wp2_with (go_at_call 171; refine (HK.out _).mono ?_; rintro e w' ⟨rfl, rfl⟩; rw [HP.out])
  go_ret3
  exact RetBB.err HF.out (Below.refl _ _)
set_option maxRecDepth 100000 in
set_option maxHeartbeats 8000000 in
theorem PadCutL_some {N : Nat} (b off cap : Nat) (l : List UInt8) (m k : Nat) (w : World) (hn : m ≤ 8589934591) (hkk : (m + 511) / 512 = k) (hl : l.length ≤ 1048576) (hle : l.length ≤ cap) (hm : cap ≤ maxLen) (hN : l.length ≤ N) (hc : ∀ i, i < l.length → w.cell? ⟨b, off + i, none⟩ = some (.int .u8 (bl l i))) :
    Calls Tryz.prog 118 #[.slice (some ⟨b, off, none⟩) l.length cap, .int .i64 m] w (RetBB 5 w (padCut l m)) := by
  have HK := Lib.hid (fun (w : World) => Blocks_any m w (by unfold i64; omega))
  obtain ⟨i0, hi, hz0, hz1, hz2⟩ := info_parts info_byte2
  have HI := Lib.hid (And.intro hi (And.intro hz0 (And.intro hz1 hz2)))
  clear hi hz0 hz1 hz2
  have HP := Lib.hid (show padBlocks (m : Int) = (((k : Nat) : Int), 0) by unfold padBlocks; rw [if_pos (by omega), ← hkk]; congr 1)
  have hk : m ≤ k * 512 := by omega
  by_cases hs : l.length < k * 512
  · have HF := Lib.hid (show padCut l (m : Int) = ([], [], 7) by unfold padCut; rw [if_neg (by omega), Int.toNat_natCast, hkk, if_pos hs])
    clear hc
    go_enter Tryz.func118, Tryz.ntmps118
    go_wp2_with (go_at_call 171; refine (HK.out _).mono ?_; rintro e w' ⟨rfl, rfl⟩; rw [HP.out])
    all_goals first | (exfalso; omega) | (go_ret3; exact RetBB.err HF.out (Below.refl _ _))
  · have hzs : (ofL ((l.drop m).take (k * 512 - m))).size ≤ maxLen := by rw [ofL_size]; unfold maxLen; simp; omega
    have hs1 := slice_sub (N := N) hle hm hN hc 0 m (by omega)
    rw [Nat.add_zero, List.drop_zero, Nat.sub_zero] at hs1
    have HS1 := Lib.hid hs1
    clear hs1
    have hmc : m ≤ cap := by omega
    have hkl : k * 512 ≤ l.length := by omega
    have hkc : k * 512 ≤ cap := by omega
    have hk0 : (0 : Int) ≤ (k : Int) * 512 := by omega
    have hki : (m : Int) ≤ (k : Int) * 512 := by omega
    have hkt : ((k : Int) * 512).toNat = k * 512 := by omega
    have hwr : IntKind.i64.wrap ((k : Int) * 512) = (k : Int) * 512 := by rw [IntKind.wrap_i64]; omega
    by_cases hcm : cap = m
    · have hcm' : m = cap := hcm.symm
      subst hcm'
      have hz : zeroB l m (k * 512) := fun i h1 h2 => absurd h2 (by omega)
      have h1 : l.length = m := by omega
      have h2 : k * 512 = m := by omega
      have HS2 : Hid (SliceC N 1 ByteC w [.slice (some ⟨b, off, none⟩) (l.length - k * 512) 0] (l.drop (k * 512))) := Lib.hid (by
        rw [show l.length - k * 512 = 0 by omega, List.drop_of_length_le (by omega)]; exact slice_zero _ _ _ (by decide))
      have hcv : (convert 24 9 (.slice (some ⟨b, off, none⟩) 0 0)).run Tryz.prog w = .ok (.string (ofL [])) w := conv w (slice_zero (N := N) _ _ _ (by decide))
      have HF := Lib.hid (show padCut l (m : Int) = (l.take m, l.drop (k * 512), 0) by unfold padCut; rw [if_neg (by omega), Int.toNat_natCast, hkk, if_neg hs, if_pos hz])
      have HT := Lib.hid (fun (w : World) => TrimZ_yes (s := ofL []) (by rw [ofL_data]; intro x hx; cases hx) w (by decide))
      clear hz hzs hc
      unfold maxLen at hm
      go_enter Tryz.func118, Tryz.ntmps118
      go_wp2_with (first | (go_at_call 171; refine (HK.out _).mono ?_; rintro e w' ⟨rfl, rfl⟩; rw [HP.out]) | (go_at_call 130; refine (HT.out _).mono ?_; rintro e w0 ⟨rfl, hb⟩; have HB0 := Lib.hid hb.drew; clear hb))
      go_region_law (first
        | (refine step_app w0.drew rfl (.const (.slice none 0 0)) (.tmp 32) 24 24 rfl (.slice none 0 0) (.slice (some ⟨b, off, none⟩) m m) (by simp [Act.eval, Act.put]) (by simp [Act.eval, Act.put]) (fun ty => app_bytes (l := []) (B := w.heap.size) w0.drew _ _ _ _ i0 Tryz.underlying24 Tryz.underlying24 HI.out.1 HI.out.2.1 HI.out.2.2.1 HI.out.2.2.2 (OwnBs.nil _ _ _) (HS1.out.below (fun _ _ h => h) HB0.out) (by simp; omega) HB0.out.size ty) ?_; intro v1 w1 ho hg _; have HO := Lib.hid (OwnBs.app (l := []) ho); have HB := Lib.hid (below_app HB0.out hg (World.ownsRow_nil _ w.heap.size 5 1) HB0.out.size); clear ho hg)
        | (refine step_app w1 rfl (.const (.slice none 0 0)) (.tmp 37) 24 24 rfl (.slice none 0 0) (.slice (some ⟨b, off, none⟩) 0 0) (by simp [Act.eval, Act.put]) (by simp [Act.eval, Act.put]) (fun ty => app_bytes (l := []) (B := w1.heap.size) w1 _ _ _ _ i0 Tryz.underlying24 Tryz.underlying24 HI.out.1 HI.out.2.1 HI.out.2.2.1 HI.out.2.2.2 (OwnBs.nil _ _ _) (HS2.out.below (fun _ _ h => h) HB.out) (by simp; omega) (Nat.le_refl _) ty) ?_; intro v2 w2 ho hg _; have HO2 := Lib.hid (OwnBs.app (l := []) ho); have HB2 := Lib.hid (below_app (Below.refl w1.heap.size w1) hg (World.ownsRow_nil _ w1.heap.size 5 1) (Nat.le_refl _)); clear ho hg))
      go_wp2
      go_ret3
      rw [HF.out]
      have e := HO.out
      simp only [List.nil_append] at e
      rw [show l.drop (k * 512) = [] from List.drop_of_length_le (by omega)]
      exact ⟨_, _, rfl, e, OwnBs.nil _ _ _, HB.out⟩
    · have HS := Lib.hid (slice_sub (N := N) hle hm hN hc m (k * 512 - m) (by omega))
      have hcv := conv w HS.out
      by_cases hz : zeroB l m (k * 512)
      · by_cases hck : cap = k * 512
        · subst hck
          have HS2 : Hid (SliceC N 1 ByteC w [.slice (some ⟨b, off, none⟩) 0 0] (l.drop (k * 512))) := Lib.hid (by
            rw [List.drop_of_length_le (by omega)]; exact slice_zero _ _ _ (by decide))
          have HF := Lib.hid (show padCut l (m : Int) = (l.take m, l.drop (k * 512), 0) by unfold padCut; rw [if_neg (by omega), Int.toNat_natCast, hkk, if_neg hs, if_pos hz])
          have HT := Lib.hid (fun (w : World) => TrimZ_yes (s := ofL ((l.drop m).take (k * 512 - m))) (by rw [ofL_data]; exact (sub_zero (by omega)).2 hz) w hzs)
          clear hz hzs hc
          unfold maxLen at hm
          go_enter Tryz.func118, Tryz.ntmps118
          go_wp2_with (first | (go_at_call 171; refine (HK.out _).mono ?_; rintro e w' ⟨rfl, rfl⟩; rw [HP.out]) | (go_at_call 130; refine (HT.out _).mono ?_; rintro e w0 ⟨rfl, hb⟩; have HB0 := Lib.hid hb.drew; clear hb))
          go_region_law (first
            | (refine step_app w0.drew rfl (.const (.slice none 0 0)) (.tmp 32) 24 24 rfl (.slice none 0 0) (.slice (some ⟨b, off, none⟩) m (k * 512)) (by simp [Act.eval, Act.put]) (by simp [Act.eval, Act.put]) (fun ty => app_bytes (l := []) (B := w.heap.size) w0.drew _ _ _ _ i0 Tryz.underlying24 Tryz.underlying24 HI.out.1 HI.out.2.1 HI.out.2.2.1 HI.out.2.2.2 (OwnBs.nil _ _ _) (HS1.out.below (fun _ _ h => h) HB0.out) (by simp; omega) HB0.out.size ty) ?_; intro v1 w1 ho hg _; have HO := Lib.hid (OwnBs.app (l := []) ho); have HB := Lib.hid (below_app HB0.out hg (World.ownsRow_nil _ w.heap.size 5 1) HB0.out.size); clear ho hg)
            | (refine step_app w1 rfl (.const (.slice none 0 0)) (.tmp 37) 24 24 rfl (.slice none 0 0) (.slice (some ⟨b, off, none⟩) 0 0) (by simp [Act.eval, Act.put]) (by simp [Act.eval, Act.put]) (fun ty => app_bytes (l := []) (B := w1.heap.size) w1 _ _ _ _ i0 Tryz.underlying24 Tryz.underlying24 HI.out.1 HI.out.2.1 HI.out.2.2.1 HI.out.2.2.2 (OwnBs.nil _ _ _) (HS2.out.below (fun _ _ h => h) HB.out) (by simp; omega) (Nat.le_refl _) ty) ?_; intro v2 w2 ho hg _; have HO2 := Lib.hid (OwnBs.app (l := []) ho); have HB2 := Lib.hid (below_app (Below.refl w1.heap.size w1) hg (World.ownsRow_nil _ w1.heap.size 5 1) (Nat.le_refl _)); clear ho hg))
          go_wp2
          go_ret3
          rw [HF.out]
          refine ⟨_, _, rfl, ?_, ?_, HB.out.trans (HB2.out.mono HB.out.size)⟩
          · have e := HO.out.below HB2.out
            simp only [List.nil_append] at e
            exact e
          · have e := OwnBs.mono HO2.out HB.out.size
            simp only [List.nil_append] at e
            exact e
        · have hs2 := slice_sub (N := N) hle hm hN hc (k * 512) (l.length - k * 512) (by omega)
          rw [List.take_of_length_le (by simp)] at hs2
          have HS2 := Lib.hid hs2
          clear hs2
          have HF := Lib.hid (show padCut l (m : Int) = (l.take m, l.drop (k * 512), 0) by unfold padCut; rw [if_neg (by omega), Int.toNat_natCast, hkk, if_neg hs, if_pos hz])
          have HT := Lib.hid (fun (w : World) => TrimZ_yes (s := ofL ((l.drop m).take (k * 512 - m))) (by rw [ofL_data]; exact (sub_zero (by omega)).2 hz) w hzs)
          clear hz hzs hc
          unfold maxLen at hm
          go_enter Tryz.func118, Tryz.ntmps118
          go_wp2_with (first | (go_at_call 171; refine (HK.out _).mono ?_; rintro e w' ⟨rfl, rfl⟩; rw [HP.out]) | (go_at_call 130; refine (HT.out _).mono ?_; rintro e w0 ⟨rfl, hb⟩; have HB0 := Lib.hid hb.drew; clear hb))
          go_region_law (first
            | (refine step_app w0.drew rfl (.const (.slice none 0 0)) (.tmp 32) 24 24 rfl (.slice none 0 0) (.slice (some ⟨b, off, none⟩) m cap) (by simp [Act.eval, Act.put]) (by simp [Act.eval, Act.put]) (fun ty => app_bytes (l := []) (B := w.heap.size) w0.drew _ _ _ _ i0 Tryz.underlying24 Tryz.underlying24 HI.out.1 HI.out.2.1 HI.out.2.2.1 HI.out.2.2.2 (OwnBs.nil _ _ _) (HS1.out.below (fun _ _ h => h) HB0.out) (by simp; omega) HB0.out.size ty) ?_; intro v1 w1 ho hg _; have HO := Lib.hid (OwnBs.app (l := []) ho); have HB := Lib.hid (below_app HB0.out hg (World.ownsRow_nil _ w.heap.size 5 1) HB0.out.size); clear ho hg)
            | (refine step_app w1 rfl (.const (.slice none 0 0)) (.tmp 37) 24 24 rfl (.slice none 0 0) (.slice (some ⟨b, off + k * 512, none⟩) (l.length - k * 512) (cap - k * 512)) (by simp [Act.eval, Act.put]) (by simp [Act.eval, Act.put]) (fun ty => app_bytes (l := []) (B := w1.heap.size) w1 _ _ _ _ i0 Tryz.underlying24 Tryz.underlying24 HI.out.1 HI.out.2.1 HI.out.2.2.1 HI.out.2.2.2 (OwnBs.nil _ _ _) (HS2.out.below (fun _ _ h => h) HB.out) (by simp; omega) (Nat.le_refl _) ty) ?_; intro v2 w2 ho hg _; have HO2 := Lib.hid (OwnBs.app (l := []) ho); have HB2 := Lib.hid (below_app (Below.refl w1.heap.size w1) hg (World.ownsRow_nil _ w1.heap.size 5 1) (Nat.le_refl _)); clear ho hg))
          go_wp2
          go_ret3
          rw [HF.out]
          refine ⟨_, _, rfl, ?_, ?_, HB.out.trans (HB2.out.mono HB.out.size)⟩
          · have e := HO.out.below HB2.out
            simp only [List.nil_append] at e
            exact e
          · have e := OwnBs.mono HO2.out HB.out.size
            simp only [List.nil_append] at e
            exact e
      · unfold maxLen at hm
        have HF := Lib.hid (show padCut l (m : Int) = ([], [], 3) by unfold padCut; rw [if_neg (by omega), Int.toNat_natCast, hkk, if_neg hs, if_neg hz])
        have HT := Lib.hid (fun (w : World) => TrimZ_no (s := ofL ((l.drop m).take (k * 512 - m))) (by rw [ofL_data]; exact fun e => hz ((sub_zero (by omega)).1 e)) w hzs)
        clear hz hzs hc
        go_enter Tryz.func118, Tryz.ntmps118
        go_wp2_with (first | (go_at_call 171; refine (HK.out _).mono ?_; rintro e w' ⟨rfl, rfl⟩; rw [HP.out]) | (go_at_call 130; refine (HT.out _).mono ?_; rintro e w0 ⟨hb, t, rfl, ht⟩; have HB0 := Lib.hid hb; clear hb))
        go_ret3
        exact RetBB.err HF.out HB0.out
set_option maxRecDepth 100000 in
set_option maxHeartbeats 8000000 in
theorem PadCutL_nil (a : Option Addr) (cap : Nat) (m k : Nat) (w : World) (hn : m ≤ 8589934591) (hkk : (m + 511) / 512 = k) (ha : a = none → cap = 0) (hm : cap ≤ maxLen) :
    Calls Tryz.prog 118 #[.slice a 0 cap, .int .i64 m] w (RetBB 5 w (padCut [] m)) := by
  have HK := Lib.hid (fun (w : World) => Blocks_any m w (by unfold i64; omega))
  have HP := Lib.hid (show padBlocks (m : Int) = (((k : Nat) : Int), 0) by unfold padBlocks; rw [if_pos (by omega), ← hkk]; congr 1)
  by_cases hs : 0 < k
  · have HF := Lib.hid (show padCut [] (m : Int) = ([], [], 7) by unfold padCut; rw [if_neg (by omega), Int.toNat_natCast, hkk, if_pos (by simp; omega)])
    go_enter Tryz.func118, Tryz.ntmps118
    go_wp2_with (go_at_call 171; refine (HK.out _).mono ?_; rintro e w' ⟨rfl, rfl⟩; rw [HP.out])
    all_goals first | (exfalso; omega) | (go_ret3; exact RetBB.err HF.out (Below.refl _ _))
  · obtain rfl : m = 0 := by omega
    obtain rfl : k = 0 := by omega
    have HF := Lib.hid (show padCut [] ((0 : Nat) : Int) = ([], [], 0) by unfold padCut zeroB; simp)
    have HT := Lib.hid (fun (w : World) => TrimZ_yes (s := ofL []) (by rw [ofL_data]; intro x hx; cases hx) w (by decide))
    cases a with
    | none =>
      obtain rfl := ha rfl
      have hcv := conv w (show SliceC maxLen 1 ByteC w [.slice none 0 0] [] from ⟨none, 0, rfl, by simp, by simp, by simp, fun _ => rfl, fun h => absurd h (by simp)⟩)
      go_enter Tryz.func118, Tryz.ntmps118
      go_wp2_with (first | (go_at_call 171; refine (HK.out _).mono ?_; rintro e w' ⟨rfl, rfl⟩; rw [HP.out]) | (go_at_call 130; refine (HT.out _).mono ?_; rintro e w0 ⟨rfl, hb⟩; have HB0 := Lib.hid hb.drew; clear hb))
      go_region
      all_goals
        go_wp2
        go_ret3
        rw [HF.out]
        exact ⟨_, _, rfl, OwnBs.nil _ _ _, OwnBs.nil _ _ _, HB0.out⟩
    | some a =>
      have hcv := conv w (slice_zero (N := maxLen) w a cap hm)
      have hcv2 := conv w (slice_zero (N := maxLen) w a 0 (by decide))
      have hl0 : ∀ w : World, (loadCellsFrom a 0 0 #[]).run Tryz.prog w = .ok #[] w := fun _ => rfl
      go_enter Tryz.func118, Tryz.ntmps118
      go_wp2_with (first | (go_at_call 171; refine (HK.out _).mono ?_; rintro e w' ⟨rfl, rfl⟩; rw [HP.out]) | (go_at_call 130; refine (HT.out _).mono ?_; rintro e w0 ⟨rfl, hb⟩; have HB0 := Lib.hid hb.drew; clear hb))
      trace_state
      all_goals
        go_region
        all_goals
        go_wp2
        go_ret3
        rw [HF.out]
        exact ⟨_, _, rfl, OwnBs.nil _ _ _, OwnBs.nil _ _ _, HB0.out⟩
theorem PadCutL_any {N : Nat} (v : Value) (l : List UInt8) (n : Int) (w : World) (hn : i64 n) (h : SliceC N 1 ByteC w [v] l) (hl : l.length ≤ 1048576) :
    Calls Tryz.prog 118 #[v, .int .i64 n] w (RetBB 5 w (padCut l n)) := by
  by_cases hb : n < 0 ∨ 8589934591 < n
  · exact PadCutL_bad v l n w hn hb
  · obtain ⟨m, rfl⟩ : ∃ m : Nat, n = m := ⟨n.toNat, by omega⟩
    obtain ⟨a, cap, hv, h1, h2, h3, h4, h5⟩ := h
    simp only [List.cons.injEq, and_true] at hv
    subst hv
    by_cases hp : 0 < l.length
    · rcases bytes_cases (N := N) (w := w) (v := .slice a l.length cap) (l := l) ⟨a, cap, rfl, h1, h2, h3, h4, h5⟩ with ⟨_, _, _, e⟩ | ⟨b, off, c2, e, _, _, _, _, hc⟩
      · rw [e] at hp; simp at hp
      · simp only [Value.slice.injEq] at e
        obtain ⟨rfl, _, rfl⟩ := e
        exact PadCutL_some b off cap l m _ w (by omega) rfl hl h1 h2 h3 hc
    · have e : l = [] := List.eq_nil_of_length_eq_zero (by omega)
      subst e
      exact PadCutL_nil a cap m _ w (by omega) rfl h4 h2
end Go.Proofs.YtaffgndickdbiaaGreatDoor
namespace Go.Creel
open Go.RowKit
def AtByte (s : ByteArray) (c : Nat) (a b i : Nat) : Prop := a ≤ i ∧ i < b ∧ byt s i = c ∧ ∀ j, a ≤ j → j < i → byt s j ≠ c
theorem AtByte.one {s : ByteArray} {c a b i j : Nat} (h : AtByte s c a b i) (k : AtByte s c a b j) : i = j := by
  obtain ⟨h1, h2, h3, h4⟩ := h
  obtain ⟨k1, k2, k3, k4⟩ := k
  rcases Nat.lt_trichotomy i j with e | e | e
  · exact absurd h3 (k4 i h1 e)
  · exact e
  · exact absurd k3 (h4 j k1 e)
end Go.Creel
namespace Go.Proofs.YtaffgndickdbiaaGreatDoor
open Go.Creel Go.RowKit
theorem IndexOne_any (s : ByteArray) (c : UInt8) (w : World) :
    Calls Tryz.prog 229 #[.string s, .string ⟨#[c]⟩] w fun e w' => e = .returned (.int .i64 (firstIdx s c)) ∧ w = w' := by
  refine (Any.stringslite_Index_one { Tryz.lays143 with } s c w).mono ?_
  rintro e w' ⟨rfl, rfl⟩
  rw [Lib.firstIdx_eq]
  exact ⟨rfl, rfl⟩
set_option maxRecDepth 100000 in
theorem CutYes_any (s : ByteArray) (c : UInt8) (i : Nat) (w : World) (hs : s.size ≤ maxLen) (hi : firstIdx s c = i) (hl : i < s.size) :
    Calls Tryz.prog 173 #[.string s, .string ⟨#[c]⟩] w fun e w' => e = .returned (.tuple #[.string (s.extract 0 i), .string (s.extract (i + 1) s.size), .bool true]) ∧ ∃ n, w' = w.drewN n := by
  have hI := IndexOne_any s c w
  unfold maxLen at hs
  rw [hi] at hI
  have HI := Lib.hid hI
  clear hI hi
  have hsl : s.size ≤ 9223372036854775807 := by omega
  have H : Calls Tryz.prog 210 #[.string s, .string ⟨#[c]⟩] w fun e w' => e = .returned (.tuple #[.string (s.extract 0 i), .string (s.extract (i + 1) s.size), .bool true]) ∧ ∃ n, w' = w.drewN n := by
    go_enter Tryz.func210, Tryz.ntmps210
    go_wp2_with fail
    refine HI.out.mono ?_
    rintro e w' ⟨rfl, rfl⟩
    go_wp2_with fail
    go_quiet (fail)
    go_wp2
    go_ret3
    exact ⟨rfl, _, rfl⟩
  have H' := Lib.hid H
  clear H HI hl hsl hs
  go_enter Tryz.func173, Tryz.ntmps173
  go_wp2_with fail
  refine H'.out.mono ?_
  rintro e w' ⟨rfl, n, rfl⟩
  go_wp2
  go_ret3
  exact ⟨rfl, _, rfl⟩
set_option maxRecDepth 100000 in
theorem CutNo_any (s : ByteArray) (c : UInt8) (w : World) (hi : firstIdx s c = -1) :
    Calls Tryz.prog 173 #[.string s, .string ⟨#[c]⟩] w fun e w' => e = .returned (.tuple #[.string s, .string ByteArray.empty, .bool false]) ∧ ∃ n, w' = w.drewN n := by
  have hI := IndexOne_any s c w
  rw [hi] at hI
  have HI := Lib.hid hI
  clear hI hi
  have H : Calls Tryz.prog 210 #[.string s, .string ⟨#[c]⟩] w fun e w' => e = .returned (.tuple #[.string s, .string ByteArray.empty, .bool false]) ∧ w' = w := by
    go_enter Tryz.func210, Tryz.ntmps210
    go_wp2_with fail
    refine HI.out.mono ?_
    rintro e w' ⟨rfl, rfl⟩
    go_wp2
    go_ret3
    exact ⟨rfl, rfl⟩
  have H' := Lib.hid H
  clear H HI
  go_enter Tryz.func173, Tryz.ntmps173
  go_wp2_with fail
  refine H'.out.mono ?_
  rintro e w' ⟨rfl, rfl⟩
  go_wp2
  go_ret3
  exact ⟨rfl, 0, rfl⟩
end Go.Proofs.YtaffgndickdbiaaGreatDoor
