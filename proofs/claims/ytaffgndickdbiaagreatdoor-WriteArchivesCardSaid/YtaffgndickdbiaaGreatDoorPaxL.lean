/-
  What is wrong with records (P7.1): pax.Check and creelref.PaxFault.
-/
import Derived.Test.YtaffgndickdbiaaGreatDoorPaxSpec
import Derived.Deep.CutRange
namespace Go.Creel
/-- the key ahead of record k; the empty text ahead of the first -/
def lastP (l : List Rec) (k : Nat) : ByteArray := if k = 0 then ⟨#[]⟩ else (rk l (k - 1)).key
end Go.Creel
namespace Go.Proofs.YtaffgndickdbiaaGreatDoor
set_option linter.unusedVariables false
set_option linter.unusedSimpArgs false
open Go.Creel Go.RowKit
set_option maxRecDepth 100000 in
set_option maxHeartbeats 2000000 in
theorem PaxL_any (v : Value) (l : List Rec) (w : World) (h : SliceC maxLen 2 (RecC maxLen) w [v] l) :
    Calls Tryz.prog 91 #[v] w fun e w' => e = .returned (.int .i64 (paxFault l)) ∧ Below w.heap.size w w' := by
  rcases recs_cases h with ⟨a, cap, rfl, rfl⟩ | ⟨b, off, cap, rfl, hpos, hle, hm, _, hc⟩
  · have HF := Lib.hid (show paxFault [] = 0 from rfl)
    go_enter Tryz.func91, Tryz.ntmps91
    go_wp2
    go_loop [3, 4, 5, 11] (fun _ _ _ i => i = .int .i64 0) (fun _ _ _ _ => 0)
    case atStart => rfl
    case round =>
      obtain rfl := hrel
      go_wp2
      go_ret
      rw [HF.out]
      exact ⟨rfl, Below.refl _ _⟩
  · have hm' := hm
    unfold maxLen at hm
    by_cases h12 : 12 < l.length
    · have HF := Lib.hid (paxFault_many h12)
      clear hc h
      go_enter Tryz.func91, Tryz.ntmps91
      go_wp2
      go_ret
      rw [HF.out]
      exact ⟨rfl, Below.refl _ _⟩
    · have hbl : b < w.heap.size := World.block_lt_of_cell? w _ (hc 0 hpos).1.1
      have Hc := Lib.hid hc
      have HFA := Lib.hid (fun k e h1 h2 h3 h4 => paxFault_at (l := l) (k := k) (e := e) (by omega) h1 h2 h3 h4)
      have HFO := Lib.hid (paxFault_ok (l := l) (by omega))
      clear hc h
      go_enter Tryz.func91, Tryz.ntmps91
      go_wp2
      go_loopw [3, 4, 5, 11] (fun _ _ _ i wr => ∃ k : Nat, k ≤ l.length ∧ i = .int .i64 k ∧ Hid (∀ j, j < k → stepP l j = 0) ∧ Hid (Below w.heap.size w wr)) (fun _ _ _ i _ => l.length - (intOf i).toNat)
      case atStart => exact ⟨0, by omega, rfl, Lib.hid (fun j hj => absurd hj (by omega)), Lib.hid (Below.refl _ _)⟩
      case round =>
        obtain ⟨k, hk, rfl, HZ, HB⟩ := hrel
        by_cases hlt : k < l.length
        · obtain ⟨⟨hc0, hc1⟩, hks, hvs⟩ := Hc.out k hlt
          rw [← HB.out.cell (p := ⟨b, off + k * 2, none⟩) hbl] at hc0
          rw [← HB.out.cell (p := ⟨b, off + k * 2 + 1, none⟩) hbl] at hc1
          have hprev : 0 < k → wr.cell? ⟨b, off + (k - 1) * 2, none⟩ = some (.string (rk l (k - 1)).key) := fun h0 => by
            rw [HB.out.cell (p := ⟨b, off + (k - 1) * 2, none⟩) hbl]; exact (Hc.out (k - 1) (by omega)).1.1
          have hbl2 : b < wr.heap.size := Nat.lt_of_lt_of_le hbl HB.out.size
          have HSR := Lib.hid (fun e => stepP_rec (l := l) (k := k) (e := e))
          have HSL := Lib.hid (stepP_le (l := l) (k := k))
          have HSO := Lib.hid (stepP_ok (l := l) (k := k))
          have HL := Lib.hid (fun W => RecL_any (rk l k) W hks hvs)
          generalize hr : rk l k = r at *
          have HR := Lib.hid hr
          clear hr
          generalize recFault r = f at *
          obtain ⟨key, value⟩ := r
          simp only [Rec.cells] at HL
          simp only at hc0 hc1
          have HPV := Lib.hid hprev
          clear hprev hks hvs
          go_wp2_with fail
          refine (HL.out _).mono ?_
          rintro e w1 ⟨rfl, hb⟩
          have HBX := Lib.hid (HB.out.trans ((((Below.refl _ _).alloc (Nat.le_refl _) _).trans (hb.mono (by simp))).mono HB.out.size))
          have hcb := (bcell hb).1
          have cb0 : w1.cell? ⟨wr.heap.size, 0, none⟩ = some (.string key) := by rw [hcb _ _ (by simp)]; simp
          have hcp : ∀ o, w1.cell? ⟨b, o, none⟩ = wr.cell? ⟨b, o, none⟩ := fun o => by rw [hcb _ _ (by simp; omega)]; exact (((Below.refl _ _).alloc (Nat.le_refl _) _)).cell (p := ⟨b, o, none⟩) hbl2
          have HCP := Lib.hid hcp
          clear hb hcb hc0 hc1 hcp HL
          by_cases hf : f = 0
          · subst hf
            by_cases h0 : 0 < k
            · obtain ⟨j, rfl⟩ : ∃ j, k = j + 1 := ⟨k - 1, by omega⟩
              have hp := HPV.out h0
              rw [← HCP.out] at hp
              simp only [Nat.add_sub_cancel] at hp HSL HSO
              generalize (rk l j).key = pre at *
              have hg : decide ((0 : Int) < ((j + 1 : Nat) : Int)) = true := by simp
              have hw1 : IntKind.i64.wrap ((j : Int) + 1 - 1) = j := by rw [IntKind.wrap_i64]; omega
              clear HPV
              cases h1 : Op.bytesLess key.toList pre.toList with
              | true =>
                have HQ := Lib.hid (HFA.out (j + 1) 6 hlt HZ.out (HSL.out trivial h0 (leS_a h1)) (by decide))
                clear HZ HFA HFO HSR HSL HSO
                go_wp2
                go_quiet (fail)
                go_wp2
                go_ret
                rw [HQ.out]
                exact ⟨rfl, below_drewN HBX.out _⟩
              | false =>
                cases h2 : (key.toList == pre.toList) with
                | true =>
                  have HQ := Lib.hid (HFA.out (j + 1) 6 hlt HZ.out (HSL.out trivial h0 (leS_b h2)) (by decide))
                  clear HZ HFA HFO HSR HSL HSO
                  go_wp2
                  go_quiet (fail)
                  go_wp2
                  go_ret
                  rw [HQ.out]
                  exact ⟨rfl, below_drewN HBX.out _⟩
                | false =>
                  have HQ := Lib.hid (show ∀ i, i < j + 1 + 1 → stepP l i = 0 from fun i hi => by
                    by_cases e : i = j + 1
                    · rw [e]; exact HSO.out trivial (fun _ => leS_c h1 h2)
                    · exact HZ.out i (by omega))
                  clear HZ HFA HFO HSR HSL HSO
                  go_wp2
                  go_quiet (fail)
                  go_wp2
                  go_roundw
                  · exact ⟨j + 1 + 1, by omega, by simp, HQ, Lib.hid (below_drewN HBX.out _)⟩
                  · simp only [intOf]; omega
            · obtain rfl : k = 0 := by omega
              have HQ := Lib.hid (show ∀ i, i < 0 + 1 → stepP l i = 0 from fun i hi => by
                obtain rfl : i = 0 := by omega
                exact HSO.out rfl (fun h => absurd h (by omega)))
              clear HZ HFA HFO HSR HSL HSO HPV
              go_wp2
              go_quiet (fail)
              go_wp2
              go_roundw
              · exact ⟨0 + 1, by omega, by simp, HQ, Lib.hid (below_drewN HBX.out _)⟩
              · simp only [intOf]; omega
          · have HQ := Lib.hid (HFA.out k f hlt HZ.out (HSR.out f rfl hf) hf)
            clear HZ HFA HFO HSR HSL HSO HPV
            go_wp2
            go_ret
            rw [HQ.out]
            exact ⟨rfl, HBX.out⟩
        · obtain rfl : k = l.length := by omega
          have HQ := Lib.hid (HFO.out HZ.out)
          clear HZ HFA HFO
          go_wp2
          go_ret
          rw [HQ.out]
          exact ⟨rfl, HB.out⟩
set_option maxRecDepth 100000 in
set_option maxHeartbeats 2000000 in
theorem PaxR_any (v : Value) (l : List Rec) (w : World) (h : SliceC maxLen 2 (RecC maxLen) w [v] l) :
    Calls Tryz.prog 111 #[v] w fun e w' => e = .returned (.int .i64 (paxFault l)) ∧ Below w.heap.size w w' := by
  rcases recs_cases h with ⟨a, cap, rfl, rfl⟩ | ⟨b, off, cap, rfl, hpos, hle, hm, _, hc⟩
  · have HF := Lib.hid (show paxFault [] = 0 from rfl)
    go_enter Tryz.func111, Tryz.ntmps111
    go_wp2
    go_loop [3, 5, 6, 12] (fun v3 _ _ i => v3 = .string ⟨#[]⟩ ∧ i = .int .i64 0) (fun _ _ _ _ => 0)
    case atStart => exact ⟨rfl, rfl⟩
    case round =>
      obtain ⟨rfl, rfl⟩ := hrel
      go_wp2
      go_ret
      rw [HF.out]
      exact ⟨rfl, Below.refl _ _⟩
  · have hm' := hm
    unfold maxLen at hm
    by_cases h12 : 12 < l.length
    · have HF := Lib.hid (paxFault_many h12)
      clear hc h
      go_enter Tryz.func111, Tryz.ntmps111
      go_wp2
      go_ret
      rw [HF.out]
      exact ⟨rfl, Below.refl _ _⟩
    · have hbl : b < w.heap.size := World.block_lt_of_cell? w _ (hc 0 hpos).1.1
      have Hc := Lib.hid hc
      have HFA := Lib.hid (fun k e h1 h2 h3 h4 => paxFault_at (l := l) (k := k) (e := e) (by omega) h1 h2 h3 h4)
      have HFO := Lib.hid (paxFault_ok (l := l) (by omega))
      clear hc h
      go_enter Tryz.func111, Tryz.ntmps111
      go_wp2
      go_loopw [3, 5, 6, 12] (fun v3 _ _ i wr => ∃ (k : Nat) (last : ByteArray), k ≤ l.length ∧ i = .int .i64 k ∧ v3 = .string last ∧ Hid (last = lastP l k) ∧ Hid (∀ j, j < k → stepP l j = 0) ∧ Hid (Below w.heap.size w wr)) (fun _ _ _ i _ => l.length - (intOf i).toNat)
      case atStart => exact ⟨0, ⟨#[]⟩, by omega, rfl, rfl, Lib.hid rfl, Lib.hid (fun j hj => absurd hj (by omega)), Lib.hid (Below.refl _ _)⟩
      case round =>
        obtain ⟨k, last, hk, rfl, rfl, HLP, HZ, HB⟩ := hrel
        by_cases hlt : k < l.length
        · obtain ⟨⟨hc0, hc1⟩, hks, hvs⟩ := Hc.out k hlt
          rw [← HB.out.cell (p := ⟨b, off + k * 2, none⟩) hbl] at hc0
          rw [← HB.out.cell (p := ⟨b, off + k * 2 + 1, none⟩) hbl] at hc1
          have HSR := Lib.hid (fun e => stepP_rec (l := l) (k := k) (e := e))
          have HSL := Lib.hid (stepP_le (l := l) (k := k))
          have HSO := Lib.hid (stepP_ok (l := l) (k := k))
          have HNX := Lib.hid (show (rk l k).key = lastP l (k + 1) from rfl)
          have HOK := Lib.hid (fun h => (recFault_ok (r := rk l k) h).1)
          have HL := Lib.hid (fun W => RecR_any (rk l k) W hks hvs)
          generalize hr : rk l k = r at *
          have HR := Lib.hid hr
          clear hr
          generalize recFault r = f at *
          obtain ⟨key, value⟩ := r
          simp only [Rec.cells] at HL
          simp only at hc0 hc1
          clear hks hvs
          go_wp2_with fail
          refine (HL.out _).mono ?_
          rintro e w1 ⟨rfl, hb⟩
          have HBX := Lib.hid (HB.out.trans ((((Below.refl _ _).alloc (Nat.le_refl _) _).trans (hb.mono (by simp))).mono HB.out.size))
          have hcb := (bcell hb).1
          have cb0 : w1.cell? ⟨wr.heap.size, 0, none⟩ = some (.string key) := by rw [hcb _ _ (by simp)]; simp
          clear hb hcb hc0 hc1 HL
          by_cases hf : f = 0
          · subst hf
            by_cases h0 : 0 < k
            · have HLQ := Lib.hid (show last = (rk l (k - 1)).key by rw [HLP.out]; unfold lastP; rw [if_neg (by omega)])
              have HY := Lib.hid (fun h => HFA.out k 6 hlt HZ.out (HSL.out rfl h0 (by rw [← HLQ.out]; exact h)) (by decide))
              have HN := Lib.hid (fun h => show ∀ i, i < k + 1 → stepP l i = 0 from fun i hi => by
                by_cases e : i = k
                · rw [e]; exact HSO.out rfl (fun _ => by rw [← HLQ.out]; exact h)
                · exact HZ.out i (by omega))
              clear HZ HFA HFO HSR HSL HSO HLP HOK
              cases h1 : Op.bytesLess key.toList last.toList with
              | true =>
                have HQ := Lib.hid (HY.out (leS_a h1))
                go_wp2
                go_ret
                rw [HQ.out]
                exact ⟨rfl, HBX.out⟩
              | false =>
                cases h2 : (key.toList == last.toList) with
                | true =>
                  have HQ := Lib.hid (HY.out (leS_b h2))
                  go_wp2
                  go_ret
                  rw [HQ.out]
                  exact ⟨rfl, HBX.out⟩
                | false =>
                  have HQ := Lib.hid (HN.out (leS_c h1 h2))
                  go_wp2
                  go_roundw
                  · exact ⟨k + 1, key, by omega, by simp, rfl, HNX, HQ, HBX⟩
                  · simp only [intOf]; omega
            · obtain rfl : k = 0 := by omega
              have HQ := Lib.hid (show ∀ i, i < 0 + 1 → stepP l i = 0 from fun i hi => by
                obtain rfl : i = 0 := by omega
                exact HSO.out rfl (fun h => absurd h (by omega)))
              obtain rfl : last = ⟨#[]⟩ := HLP.out
              obtain ⟨h1, h2⟩ := leS_empty (HOK.out rfl)
              clear HZ HFA HFO HSR HSL HSO HLP HOK
              go_wp2
              go_roundw
              case rel => exact ⟨1, key, by omega, rfl, rfl, HNX, HQ, HBX⟩
              case measure => simp [intOf]; omega
          · have HQ := Lib.hid (HFA.out k f hlt HZ.out (HSR.out f rfl hf) hf)
            clear HZ HFA HFO HSR HSL HSO HLP HOK
            go_wp2
            go_ret
            rw [HQ.out]
            exact ⟨rfl, HBX.out⟩
        · obtain rfl : k = l.length := by omega
          have HQ := Lib.hid (HFO.out HZ.out)
          clear HZ HFA HFO HLP
          go_wp2
          go_ret
          rw [HQ.out]
          exact ⟨rfl, HB.out⟩
end Go.Proofs.YtaffgndickdbiaaGreatDoor
