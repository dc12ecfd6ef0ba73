/-
  Parts of a tree's slice; the place of a path in an ordered tree.
-/
import Derived.Test.YtecmcgedeaemgaaDoorPutSpec
import Derived.Test.YtecmcgedeaemgaaDoorEnter
import Derived.Test.YtecmcgedeaemgaaDoorCompare
namespace Go.Creel
set_option linter.unusedVariables false
set_option linter.unusedSimpArgs false
open Go.RowKit
theorem nods_take {w : World} {a : Option Addr} {n cap i : Nat} {l : List Nod} (h : SliceC maxLen 12 (NodC maxLen) w [.slice a n cap] l) (hi : i ≤ l.length) : SliceC maxLen 12 (NodC maxLen) w [.slice a i cap] (l.take i) := by
  obtain ⟨a', cap', hv, h1, h2, h3, h4, h5⟩ := h
  simp only [List.cons.injEq, Value.slice.injEq, and_true] at hv
  obtain ⟨rfl, rfl, rfl⟩ := hv
  have hl : (l.take i).length = i := by rw [List.length_take]; omega
  refine ⟨a, cap, by rw [hl], by omega, h2, by omega, h4, fun hp => ?_⟩
  obtain ⟨b, off, e, hc⟩ := h5 (by omega)
  refine ⟨b, off, e, fun k hk => ?_⟩
  obtain ⟨c, hcl, hcc, hE⟩ := hc k (by omega)
  exact ⟨c, hcl, hcc, by rw [List.getElem_take]; exact hE⟩
theorem nods_drop {w : World} {a : Option Addr} {n cap i : Nat} {l : List Nod} (h : SliceC maxLen 12 (NodC maxLen) w [.slice a n cap] l) (hi : i ≤ l.length) : SliceC maxLen 12 (NodC maxLen) w [sliced a i n cap 12] (l.drop i) := by
  obtain ⟨a', cap', hv, h1, h2, h3, h4, h5⟩ := h
  simp only [List.cons.injEq, Value.slice.injEq, and_true] at hv
  obtain ⟨rfl, rfl, rfl⟩ := hv
  have hl : (l.drop i).length = l.length - i := List.length_drop
  unfold sliced
  refine ⟨if cap = i then a else a.map (·.add (i * 12)), cap - i, by rw [hl], by omega, by omega, by omega, fun h => ?_, fun hp => ?_⟩
  · split at h
    · have := h4 h; omega
    · cases ha : a with
      | none => have := h4 ha; omega
      | some x => rw [ha] at h; cases h
  · obtain ⟨b, off, e, hc⟩ := h5 (by omega)
    refine ⟨b, off + i * 12, ?_, fun k hk => ?_⟩
    · rw [if_neg (by omega), e]
      simp only [Option.map_some, Addr.add]
      by_cases h0 : i * 12 = 0 <;> simp [h0]
    · obtain ⟨c, hcl, hcc, hE⟩ := hc (i + k) (by omega)
      refine ⟨c, hcl, fun j hj => ?_, by rw [List.getElem_drop]; exact hE⟩
      rw [← hcc j hj]
      congr 2
      omega
theorem src_nods {P : Program} {w : World} {v : Value} {l : List Nod} {tx e' : TypeId} (hk : P.underlying tx = some (.slice e')) (h : SliceC maxLen 12 (NodC maxLen) w [v] l) : Src P 12 tx v l.length (l.flatMap Nod.cells) w := by
  have hone : ∀ u ∈ l.flatMap Nod.cells, u.oneCell' = true := by
    intro u hu
    obtain ⟨x, _, hx⟩ := List.mem_flatMap.1 hu
    simp [Nod.cells] at hx
    rcases hx with rfl | rfl | rfl | rfl | rfl | rfl | rfl | rfl | rfl | rfl | rfl | rfl <;> rfl
  obtain ⟨a, cap, hv, h1, h2, h3, h4, h5⟩ := h
  simp only [List.cons.injEq, and_true] at hv
  subst hv
  cases a with
  | none =>
    have h0 : l.length = 0 := by have := h4 rfl; omega
    obtain rfl := List.eq_nil_of_length_eq_zero h0
    exact Src.ofNil w hk cap
  | some a =>
    refine Src.ofSlice w hk a l.length cap _ (flat_len l) (fun j u hu => ?_) hone
    have hj : j < l.length * 12 := by
      rcases Nat.lt_or_ge j (l.length * 12) with h | h
      · exact h
      · rw [List.getElem?_eq_none (by rw [flat_len]; exact h)] at hu; cases hu
    obtain ⟨b, off, e, hc⟩ := h5 (by omega)
    cases e
    have hjd : j = j / 12 * 12 + j % 12 := by omega
    have hj12 : j % 12 < 12 := Nat.mod_lt _ (by omega)
    have hji : j / 12 < l.length := by omega
    obtain ⟨c, hcl, hcc, hE⟩ := hc (j / 12) hji
    rw [hjd, flat_at l (j / 12) (j % 12) hji hj12, nk_eq hji, ← hE.1, ← hcc _ hj12] at hu
    rw [← hu]
    have e2 : ∀ q, (⟨b, off, none⟩ : Addr).add q = ⟨b, off + q, none⟩ := fun q => by unfold Addr.add; by_cases h0 : q = 0 <;> simp [h0]
    rw [e2]
    congr 2
    omega
theorem half_lt {i j : Nat} (h : i < j) : i ≤ (i + j) / 2 ∧ (i + j) / 2 < j := by omega
end Go.Creel
namespace Go.Proofs.YtecmcgedeaemgaaDoor
set_option linter.unusedVariables false
set_option linter.unusedSimpArgs false
open Go.Creel Go.RowKit
set_option maxRecDepth 100000 in
theorem PutCmp_any (x : Nod) (s : ByteArray) (w : World) (hM : MaxOk w) (hx : x.path.size ≤ 1048576) (hs : s.size ≤ 1048576) :
    Calls Tryd.prog 80 #[x.val, .string s] w fun e w' => e = .returned (.int .i64 (ordTo s x)) ∧ Below w.heap.size w w' := by
  have HB := Lib.hid ((Below.refl w.heap.size w).alloc (Nat.le_refl _) (boxOf x))
  have HC := Lib.hid (fun w hM => Compare_any x.path s w hM hx hs)
  have HM := Lib.hid (hM.below HB.out)
  have HO := Lib.hid (show ordP (pathParts x.path) (pathParts s) = ordTo s x from rfl)
  rw [HO.out] at HC
  clear hM hx hs HO
  go_enter Tryd.func80, Tryd.ntmps80
  go_wp2_with fail
  refine (HC.out _ HM.out).mono ?_
  rintro e w2 ⟨rfl, hb⟩
  have HB2 := Lib.hid (HB.out.trans (hb.mono HB.out.size))
  clear hb
  go_wp2
  go_ret
  exact ⟨rfl, HB2.out⟩
set_option maxRecDepth 100000 in
set_option maxHeartbeats 1000000 in
theorem BinSearch_at (b off cap n : Nat) (l : List Nod) (s : ByteArray) (w : World) (hM : MaxOk w) (hs : s.size ≤ 1048576) (hn : l.length = n) (hle : n ≤ cap) (hm : cap ≤ maxLen) (hc : NodsAt w b off l) (ho : l.Pairwise PathLt) (hps : ∀ k, k < n → (nk l k).path.size ≤ 1048576) (h40 : n ≤ 40) :
    Calls Tryd.prog 79 #[.slice (some ⟨b, off, none⟩) n cap, .string s, .func (.func 80) #[] #[]] w fun e w' => e = .returned (.tuple #[.int .i64 (posN l s), .bool (isAt l s)]) ∧ Below w.heap.size w w' := by
  unfold maxLen at hm
  have HC := Lib.hid hc
  have HM := Lib.hid hM
  have HCMP := Lib.hid (fun k (hk : k < n) w hM => PutCmp_any (nk l k) s w hM (hps k hk) hs)
  have HLATER := Lib.hid (fun h k (hk : k < n) (hh : h ≤ k) (hx : ¬ ordTo s (nk l h) = -1) => show ¬ ordTo s (nk l k) = -1 from by
    by_cases e : h = k
    · rw [← e]; exact hx
    · have := ordTo_later (x := nk l h) (y := nk l k) (by rw [nk_eq (by omega), nk_eq (by omega)]; exact List.pairwise_iff_getElem.1 ho _ _ (by omega) (by omega) (by omega)) hx
      rw [this]; decide)
  have HEQ := Lib.hid (fun i (hi : i ≤ n) => pos_eq (l := l) (s := s) (i := i) (by omega))
  have hent := enter_of Tryd.func80 (by kernel_rfl) (by kernel_rfl)
  clear hc hM hps ho
  have HN := Lib.hid hn
  clear hn
  go_enter Tryd.func79, Tryd.ntmps79
  go_wp2
  go_loopw [9, 10, 11] (fun v9 v10 _ wr => ∃ i j : Nat, v9 = .int .i64 i ∧ v10 = .int .i64 j ∧ i ≤ j ∧ j ≤ n ∧ Hid (∀ k, k < i → ordTo s (nk l k) = -1) ∧ Hid (∀ k, j ≤ k → k < n → ¬ ordTo s (nk l k) = -1) ∧ Hid (Below w.heap.size w wr)) (fun v9 v10 _ _ => (intOf v10).toNat - (intOf v9).toNat)
  case atStart => exact ⟨0, n, rfl, rfl, by omega, by omega, Lib.hid (fun k hk => absurd hk (by omega)), Lib.hid (fun k h1 h2 => absurd h2 (by omega)), Lib.hid (Below.refl _ _)⟩
  case round =>
    obtain ⟨i, j, rfl, rfl, hij, hjn, HLO, HHI, HB⟩ := hrel
    by_cases hlt : i < j
    · obtain ⟨hh1, hh2⟩ := half_lt hlt
      go_upto_region 5 with fail
      rw [show ((i : Int) + (j : Int)) / 2 = (((i + j) / 2 : Nat) : Int) by omega]
      generalize (i + j) / 2 = h at *
      obtain ⟨h0, h1, h2, h3, h4, h5, h6, h7, h8, h9, h10, h11⟩ := (HC.out.below HB.out) h (by have := HN.out; omega)
      have HCALL := Lib.hid (HCMP.out h (by omega) wr (HM.out.below HB.out))
      have HUP := Lib.hid (HLATER.out h)
      have HLOW := Lib.hid (show ordTo s (nk l h) = -1 → ∀ k, k < h + 1 → ordTo s (nk l k) = -1 from fun e k hk => by
        by_cases hkh : k = h
        · rw [hkh]; exact e
        · rcases Nat.lt_or_ge k i with h2 | h2
          · exact HLO.out k h2
          · refine Classical.byContradiction fun hx => ?_
            exact HLATER.out k h (by omega) (by omega) hx e)
      have HRG := Lib.hid (ordTo_range s (nk l h))
      generalize nk l h = x at *
      generalize ordTo s x = c at *
      go_wp2_with fail
      refine HCALL.out.mono ?_
      rintro e w2 ⟨rfl, hb⟩
      have HB2 := Lib.hid (HB.out.trans (hb.mono HB.out.size))
      clear hb
      by_cases hc : c = -1
      · have HL := Lib.hid (HLOW.out hc)
        have hd : decide (c < 0) = true := decide_eq_true (by omega)
        subst hc
        clear hd
        go_wp2
        go_roundw
        case rel => exact ⟨h + 1, j, by go_num, rfl, by omega, hjn, HL, HHI, HB2⟩
        case measure => simp [intOf]; omega
      · have HU := Lib.hid (fun k (h1 : h ≤ k) (h2 : k < n) => HUP.out k h2 h1 hc)
        have hd : ¬ c < 0 := by have := HRG.out; omega
        clear hc
        go_wp2
        go_roundw
        case rel => exact ⟨i, h, rfl, rfl, by omega, by omega, HLO, HU, HB2⟩
        case measure => simp [intOf]; omega
    · obtain rfl : i = j := by omega
      have HP := Lib.hid (HEQ.out i hjn HLO.out (fun hi => HHI.out i (Nat.le_refl _) (by have := HN.out; omega)))
      by_cases hin : i < n
      · obtain ⟨h0, h1, h2, h3, h4, h5, h6, h7, h8, h9, h10, h11⟩ := (HC.out.below HB.out) i (by have := HN.out; omega)
        have HCALL := Lib.hid (HCMP.out i hin wr (HM.out.below HB.out))
        have HA := Lib.hid (show isAt l s = decide (ordTo s (nk l i) = 0) by unfold isAt; rw [HP.out, HN.out]; simp [hin])
        generalize nk l i = x at *
        generalize ordTo s x = c at *
        go_wp2_with fail
        refine HCALL.out.mono ?_
        rintro e w2 ⟨rfl, hb⟩
        have HB2 := Lib.hid (HB.out.trans (hb.mono HB.out.size))
        clear hb
        go_wp2
        go_ret2
        rw [HA.out, HP.out]
        exact ⟨rfl, HB2.out⟩
      · have HA := Lib.hid (show isAt l s = false by unfold isAt; rw [HP.out, HN.out]; simp [hin])
        go_wp2
        go_ret2
        rw [HA.out, HP.out]
        exact ⟨rfl, HB.out⟩
end Go.Proofs.YtecmcgedeaemgaaDoor
