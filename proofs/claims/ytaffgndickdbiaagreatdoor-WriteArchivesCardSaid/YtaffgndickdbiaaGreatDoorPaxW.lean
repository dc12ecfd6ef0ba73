/-
  Records as text (P7.2): pax.Write and creelref.PaxText.
-/
import Derived.Test.YtaffgndickdbiaaGreatDoorPaxL
import Derived.Test.YtaffgndickdbiaaGreatDoorRecT
import Derived.Test.YtaffgndickdbiaaGreatDoorBui
namespace Go.Creel
theorem paxBytes_part {l : List Rec} (h : paxFault l = 0) (k : Nat) : (paxBytes (l.take k)).length ≤ 6792 ∧ (ofL (paxBytes (l.drop k))).size ≤ 6792 := by
  have ha := pax_all h
  have hl := (paxFault_all h).1
  have h1 := paxBytes_le (l := l.take k) (fun r hr => ha r (List.mem_of_mem_take hr))
  have h2 := paxBytes_le (l := l.drop k) (fun r hr => ha r (List.mem_of_mem_drop hr))
  rw [List.length_take] at h1
  rw [List.length_drop] at h2
  rw [ofL_size]
  omega
end Go.Creel
namespace Go.Proofs.YtaffgndickdbiaaGreatDoor
set_option linter.unusedVariables false
set_option linter.unusedSimpArgs false
open Go.Creel Go.RowKit
theorem bui_shelf {B b : Nat} {bs : List UInt8} {w : World} (h : BuiBe B b bs w) : Lib.IsBuilder 124 5 B b (Lib.byteCells bs) w := by
  have key : ∀ q, BuiAt B b q bs w → Lib.BuilderAt 124 5 B b q (Lib.byteCells bs) w := by
    rintro q ⟨hB, v, hb, ho, hne⟩
    refine ⟨hB, v, hb, ?_, hne⟩
    rw [show (Lib.byteCells bs).length = bs.length by simp [Lib.byteCells]]
    exact ho
  exact h.elim (fun h => .inl (key _ h)) (fun h => .inr (key _ h))
theorem BuiStr_any (B b : Nat) (bs : List UInt8) (w : World) (h : BuiBe B b bs w) (hBw : B ≤ w.heap.size) :
    Calls Tryz.prog 94 #[.pointer (some ⟨b, 0, none⟩)] w fun e w' => e = .returned (.string (ofL bs)) ∧ Below B w w' :=
  Tryz.Builder_String_any B b bs w (bui_shelf h) hBw
theorem BuiBe.below {B b : Nat} {bs : List UInt8} {w w' : World} (h : BuiBe B b bs w) (hb : Below w.heap.size w w') : BuiBe B b bs w' := h.elim (fun h => .inl (h.below hb)) (fun h => .inr (h.below hb))
set_option maxRecDepth 100000 in
set_option maxHeartbeats 2000000 in
theorem PaxW_any (v : Value) (l : List Rec) (w : World) (h : SliceC maxLen 2 (RecC maxLen) w [v] l) (hT : Pow10 w) :
    Calls Tryz.prog 38 #[v] w fun e w' => e = .returned (.tuple #[.string (paxWrite l).1, .int .i64 (paxWrite l).2]) ∧ Below w.heap.size w w' := by
  have HC := Lib.hid (PaxL_any v l w h)
  by_cases h0 : paxFault l = 0
  · have HF := Lib.hid (paxWrite_ok h0)
    have HT := Lib.hid hT
    rw [h0] at HC
    have HPT := Lib.hid (paxBytes_part h0)
    have HALL := Lib.hid (fun k (hk : k < l.length) => stepP_zero ((paxFault_all h0).2 k hk))
    have h12 := (paxFault_all h0).1
    clear h0 hT
    rcases recs_cases h with ⟨a, cap, rfl, rfl⟩ | ⟨b, off, cap, rfl, hpos, hle, hm, _, hc⟩
    · go_enter Tryz.func38, Tryz.ntmps38
      go_wp2_with fail
      refine HC.out.mono ?_
      rintro e w1 ⟨rfl, hb⟩
      have HB := Lib.hid hb
      clear hb
      have HN := Lib.hid (show BuiBe w1.heap.size w1.heap.size [] (w1.alloc (.cells #[.pointer none, .slice none 0 0] 124)) from .inl (BuiIs.new _ _ w1))
      have HS := Lib.hid (BuiStr_any w1.heap.size w1.heap.size [] _ HN.out (by simp))
      go_wp2
      go_loop [7, 8, 9, 17] (fun _ _ _ i => i = .int .i64 0) (fun _ _ _ _ => 0)
      case atStart => rfl
      case round =>
        obtain rfl := hrel
        go_wp2_with fail
        refine HS.out.mono ?_
        rintro e w3 ⟨rfl, hb⟩
        have HB3 := Lib.hid (HB.out.trans (((Below.refl _ _).alloc (Nat.le_refl _) _).trans hb |>.mono HB.out.size))
        clear hb
        go_wp2
        go_ret2
        exact ⟨ret_si HF.out, HB3.out⟩
    · unfold maxLen at hm
      have hbl : b < w.heap.size := World.block_lt_of_cell? w _ (hc 0 hpos).1.1
      have Hc := Lib.hid hc
      clear hc h
      go_enter Tryz.func38, Tryz.ntmps38
      go_wp2_with fail
      refine HC.out.mono ?_
      rintro e w1 ⟨rfl, hb⟩
      have HB := Lib.hid hb
      clear hb
      have HN := Lib.hid (show BuiBe w1.heap.size w1.heap.size [] (w1.alloc (.cells #[.pointer none, .slice none 0 0] 124)) from .inl (BuiIs.new _ _ w1))
      have HB0 := Lib.hid ((Below.refl w1.heap.size w1).alloc (Nat.le_refl _) (.cells #[.pointer none, .slice none 0 0] 124))
      go_wp2
      go_loopw [7, 8, 9, 17] (fun _ _ _ i wr => ∃ k : Nat, k ≤ l.length ∧ i = .int .i64 k ∧ Hid (BuiBe w1.heap.size w1.heap.size (paxBytes (l.take k)) wr) ∧ Hid (Below w1.heap.size w1 wr)) (fun _ _ _ i _ => l.length - (intOf i).toNat)
      case atStart => exact ⟨0, by omega, rfl, HN, HB0⟩
      case round =>
        obtain ⟨k, hk, rfl, HBU, HBR⟩ := hrel
        have HBW := Lib.hid (HB.out.trans (HBR.out.mono HB.out.size))
        by_cases hlt : k < l.length
        · obtain ⟨⟨hc0, hc1⟩, hks, hvs⟩ := Hc.out k hlt
          rw [← HBW.out.cell (p := ⟨b, off + k * 2, none⟩) hbl] at hc0
          rw [← HBW.out.cell (p := ⟨b, off + k * 2 + 1, none⟩) hbl] at hc1
          have HL := Lib.hid (fun W hW => RecW_any (rk l k) W hks hvs hW)
          rw [recWrite_ok (HALL.out k hlt)] at HL
          have HSZ := Lib.hid (recText_size (HALL.out k hlt))
          have HNX := Lib.hid (paxBytes_take hlt)
          have HPK := Lib.hid (HPT.out k).1
          generalize recText (rk l k) = t at *
          generalize hr : rk l k = r at *
          have HR := Lib.hid hr
          clear hr
          obtain ⟨key, value⟩ := r
          simp only [Rec.cells] at HL
          simp only at hc0 hc1
          clear hks hvs
          have HBX := Lib.hid (fun o => (Below.refl wr.heap.size wr).alloc (Nat.le_refl _) o)
          go_wp2_with fail
          refine (HL.out _ (HT.out.below (HBW.out.trans ((HBX.out _).mono HBW.out.size)))).mono ?_
          rintro e w2 ⟨rfl, hb⟩
          have HB2 := Lib.hid ((HBX.out _).trans (hb.mono (by simp)))
          clear hb hc0 hc1 HL
          have HBU2 := Lib.hid (HBU.out.below HB2.out)
          have hbr2 := Nat.le_trans HBR.out.size HB2.out.size
          go_wp2_with fail
          refine (BuiWrite_any w1.heap.size w1.heap.size (paxBytes (l.take k)) t w2 HBU2.out ?_ hbr2).mono ?_
          · have := HPK.out; have := HSZ.out; omega
          rintro e w3 ⟨rfl, hbu, hb3⟩
          have HBU3 := Lib.hid (show BuiBe w1.heap.size w1.heap.size (paxBytes (l.take (k + 1))) w3 by rw [HNX.out]; exact .inr hbu)
          have HB3 := Lib.hid (HBR.out.trans ((HB2.out.mono HBR.out.size).trans hb3))
          clear hbu hb3
          go_wp2
          go_roundw
          · exact ⟨k + 1, by omega, by simp, HBU3, HB3⟩
          · simp only [intOf]; omega
        · obtain rfl : k = l.length := by omega
          have HS := Lib.hid (BuiStr_any w1.heap.size w1.heap.size _ _ HBU.out HBR.out.size)
          rw [List.take_length] at HS
          go_wp2_with fail
          refine HS.out.mono ?_
          rintro e w3 ⟨rfl, hb⟩
          have HB3 := Lib.hid (HB.out.trans ((HBR.out.trans hb).mono HB.out.size))
          clear hb
          go_wp2
          go_ret2
          exact ⟨ret_si HF.out, HB3.out⟩
  · have HF := Lib.hid (paxWrite_bad h0)
    generalize paxFault l = f at *
    clear h hT
    go_enter Tryz.func38, Tryz.ntmps38
    go_wp2_with fail
    refine HC.out.mono ?_
    rintro e w1 ⟨rfl, hb⟩
    have HB := Lib.hid hb
    clear hb
    go_wp2
    go_ret2
    exact ⟨ret_si HF.out, HB.out⟩
set_option maxRecDepth 100000 in
set_option maxHeartbeats 2000000 in
theorem PaxT_any (v : Value) (l : List Rec) (w : World) (h : SliceC maxLen 2 (RecC maxLen) w [v] l) (hT : Pow10 w) :
    Calls Tryz.prog 45 #[v] w fun e w' => e = .returned (.tuple #[.string (paxWrite l).1, .int .i64 (paxWrite l).2]) ∧ Below w.heap.size w w' := by
  have HC := Lib.hid (PaxR_any v l w h)
  by_cases h0 : paxFault l = 0
  · have HF := Lib.hid (paxWrite_ok h0)
    have HT := Lib.hid hT
    rw [h0] at HC
    have HPT := Lib.hid (paxBytes_part h0)
    have HALL := Lib.hid (fun k (hk : k < l.length) => stepP_zero ((paxFault_all h0).2 k hk))
    have h12 := (paxFault_all h0).1
    clear h0 hT
    rcases recs_cases h with ⟨a, cap, rfl, rfl⟩ | ⟨b, off, cap, rfl, hpos, hle, hm, _, hc⟩
    · go_enter Tryz.func45, Tryz.ntmps45
      go_wp2_with fail
      refine HC.out.mono ?_
      rintro e w1 ⟨rfl, hb⟩
      have HB := Lib.hid hb
      clear hb
      go_wp2
      go_loop [5, 6, 7, 8] (fun v5 v6 _ _ => v5 = .string ⟨#[]⟩ ∧ v6 = .int .i64 (-1)) (fun _ _ _ _ => 0)
      case atStart => exact ⟨rfl, rfl⟩
      case round =>
        obtain ⟨rfl, rfl⟩ := hrel
        go_wp2
        go_ret2
        exact ⟨ret_si HF.out, HB.out⟩
    · unfold maxLen at hm
      have hbl : b < w.heap.size := World.block_lt_of_cell? w _ (hc 0 hpos).1.1
      have Hc := Lib.hid hc
      clear hc h
      go_enter Tryz.func45, Tryz.ntmps45
      go_wp2_with fail
      refine HC.out.mono ?_
      rintro e w1 ⟨rfl, hb⟩
      have HB := Lib.hid hb
      clear hb
      go_wp2
      go_loopw [5, 6, 7, 8] (fun v5 v6 _ _ wr => ∃ (k : Nat) (out : ByteArray), k ≤ l.length ∧ v6 = .int .i64 ((k : Int) - 1) ∧ v5 = .string out ∧ Hid (out = ofL (paxBytes (l.drop k))) ∧ Hid (Below w.heap.size w wr)) (fun _ v6 _ _ _ => ((intOf v6) + 1).toNat)
      case atStart => exact ⟨l.length, ⟨#[]⟩, by omega, rfl, rfl, Lib.hid (by rw [List.drop_length]; rfl), HB⟩
      case round =>
        obtain ⟨k, out, hk, rfl, rfl, HO, HBR⟩ := hrel
        by_cases h0 : 0 < k
        · obtain ⟨j, rfl⟩ : ∃ j, k = j + 1 := ⟨k - 1, by omega⟩
          have hlt : j < l.length := by omega
          rw [show ((j + 1 : Nat) : Int) - 1 = j by omega]
          obtain ⟨⟨hc0, hc1⟩, hks, hvs⟩ := Hc.out j hlt
          rw [← HBR.out.cell (p := ⟨b, off + j * 2, none⟩) hbl] at hc0
          rw [← HBR.out.cell (p := ⟨b, off + j * 2 + 1, none⟩) hbl] at hc1
          have HL := Lib.hid (fun W hW => RecT_any (rk l j) W hks hvs hW)
          rw [recWrite_ok (HALL.out j hlt)] at HL
          have HSZ := Lib.hid (recText_size (HALL.out j hlt))
          have HNX := Lib.hid (paxBytes_drop hlt)
          have hos : out.size ≤ 6792 := by rw [HO.out]; exact (HPT.out (j + 1)).2
          have hts := HSZ.out
          generalize recText (rk l j) = t at *
          generalize hr : rk l j = r at *
          have HR := Lib.hid hr
          clear hr
          obtain ⟨key, value⟩ := r
          simp only [Rec.cells] at HL
          simp only at hc0 hc1
          clear hks hvs
          go_wp2_with fail
          refine (HL.out _ (HT.out.below HBR.out)).mono ?_
          rintro e w2 ⟨rfl, hb⟩
          have HB2 := Lib.hid (HBR.out.trans (hb.mono HBR.out.size))
          clear hb hc0 hc1 HL
          go_wp2
          go_roundw
          · exact ⟨j, t ++ out, by omega, rfl, rfl, Lib.hid (by rw [HO.out, HNX.out]), HB2⟩
          · simp only [intOf]; omega
        · obtain rfl : k = 0 := by omega
          rw [List.drop_zero] at HO
          have HQ := Lib.hid (show paxWrite l = (out, 0) by rw [HF.out, HO.out])
          go_wp2
          go_ret2
          exact ⟨ret_si HQ.out, HBR.out⟩
  · have HF := Lib.hid (paxWrite_bad h0)
    generalize paxFault l = f at *
    clear h hT
    go_enter Tryz.func45, Tryz.ntmps45
    go_wp2_with fail
    refine HC.out.mono ?_
    rintro e w1 ⟨rfl, hb⟩
    have HB := Lib.hid hb
    clear hb
    go_wp2
    go_ret2
    exact ⟨ret_si HF.out, HB.out⟩
end Go.Proofs.YtaffgndickdbiaaGreatDoor
