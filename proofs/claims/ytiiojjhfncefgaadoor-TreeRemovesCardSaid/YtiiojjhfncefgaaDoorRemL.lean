/-
  tree.Remove: its test, the first place that it finds, the deletion.
-/
import Derived.Test.YtiiojjhfncefgaaDoorDelete
namespace Go.Proofs.YtiiojjhfncefgaaDoor
set_option linter.unusedVariables false
set_option linter.unusedSimpArgs false
open Go.Creel Go.RowKit
abbrev nodZ' : Value := .agg #[.string ⟨#[]⟩, .int .i64 0, .int .i64 0, .string ⟨#[]⟩, .int .i64 0, .int .i64 0, .int .i64 0, .string ⟨#[]⟩, .string ⟨#[]⟩, .int .i64 0, .int .i64 0, .slice none 0 0]
set_option maxRecDepth 100000 in
theorem Rem1_any (x : Nod) (pb : Nat) (s : ByteArray) (w : World) (hc : w.cell? ⟨pb, 0, none⟩ = some (.string s)) (hlt : pb < w.heap.size) (hs : s.size ≤ 4000000000) :
    Calls Tryd.prog 63 #[x.val, .pointer (some ⟨pb, 0, none⟩)] w fun e w' => e = .returned (.bool (remB x s)) ∧ Below w.heap.size w w' := by
  have HB := Lib.hid fun o : Obj => (Below.refl w.heap.size w).alloc (Nat.le_refl _) o
  by_cases he : x.path = s
  · have hb := seq_t he
    have HF := Lib.hid (show remB x s = true by unfold remB; rw [hb]; rfl)
    clear he
    go_enter Tryd.func63, Tryd.ntmps63
    go_wp2
    go_ret
    exact ⟨ret_b HF.out, HB.out _⟩
  · have hb := seq_f he
    have HF := Lib.hid (show remB x s = pathIn x.path s by unfold remB; rw [hb]; rfl)
    have HP := Lib.hid (fun w : World => In_any x.path s w hs)
    clear he
    go_enter Tryd.func63, Tryd.ntmps63
    go_wp2_with fail
    refine (HP.out _).mono ?_
    rintro e w1 ⟨rfl, rfl⟩
    generalize pathIn x.path s = q at *
    go_wp2
    go_ret
    exact ⟨ret_b HF.out, HB.out _⟩
set_option maxRecDepth 100000 in
set_option maxHeartbeats 1000000 in
theorem IndexRem_at (b off cap n : Nat) (l : List Nod) (pb : Nat) (s : ByteArray) (w : World) (hn : l.length = n) (hle : n ≤ cap) (hm : cap ≤ maxLen) (hc : NodsAt w b off l) (hp : w.cell? ⟨pb, 0, none⟩ = some (.string s)) (hlt : pb < w.heap.size) (hs : s.size ≤ 4000000000) :
    Calls Tryd.prog 99 #[.slice (some ⟨b, off, none⟩) n cap, .func (.func 63) #[] #[.pointer (some ⟨pb, 0, none⟩)]] w fun e w' => Below w.heap.size w w' ∧
      ((∃ k : Nat, k < n ∧ e = .returned (.int .i64 k) ∧ remB (nk l k) s = true ∧ ∀ j, j < k → remB (nk l j) s = false) ∨ (e = .returned (.int .i64 (-1)) ∧ ∀ j, j < n → remB (nk l j) s = false)) := by
  unfold maxLen at hm
  have HN := Lib.hid hn
  have HC := Lib.hid hc
  have HP := Lib.hid hp
  have HPL := Lib.hid hlt
  clear hc hp hlt hn
  go_enter Tryd.func99, Tryd.ntmps99
  go_wp2
  go_loopw [5, 8] (fun _ i wr => ∃ k : Nat, k ≤ n ∧ i = .int .i64 k ∧ Hid (∀ j, j < k → remB (nk l j) s = false) ∧ Hid (Below w.heap.size w wr)) (fun _ i _ => n - (intOf i).toNat)
  case atStart => exact ⟨0, by omega, rfl, Lib.hid fun j hj => absurd hj (by omega), Lib.hid (Below.refl _ _)⟩
  case round =>
    obtain ⟨k, hk, rfl, HD, HB⟩ := hrel
    by_cases hlt : k < n
    · obtain ⟨h0, h1, h2, h3, h4, h5, h6, h7, h8, h9, h10, h11⟩ := (HC.out.below HB.out) k (by rw [HN.out]; exact hlt)
      have HFC := Lib.hid (Rem1_any (nk l k) pb s wr ((HB.out.cell (p := ⟨pb, 0, none⟩) HPL.out).trans HP.out) (Nat.lt_of_lt_of_le HPL.out HB.out.size) hs)
      generalize hx : nk l k = x at HFC h0 h1 h2 h3 h4 h5 h6 h7 h8 h9 h10 h11
      have HX := Lib.hid hx
      clear hx
      by_cases he : remB x s = true
      · rw [he] at HFC
        have HE := Lib.hid he
        clear he
        go_wp2_with (go_at_call 63; refine HFC.out.mono ?_; rintro e w' ⟨rfl, hb2⟩; have HB2 := Lib.hid (HB.out.trans (hb2.mono HB.out.size)); clear hb2)
        go_ret
        exact ⟨HB2.out, .inl ⟨k, hlt, rfl, by rw [HX.out]; exact HE.out, HD.out⟩⟩
      · have hf : remB x s = false := by simpa using he
        rw [hf] at HFC
        have HE := Lib.hid hf
        clear he hf
        go_wp2_with (go_at_call 63; refine HFC.out.mono ?_; rintro e w' ⟨rfl, hb2⟩; have HB2 := Lib.hid (HB.out.trans (hb2.mono HB.out.size)); clear hb2)
        go_roundw
        case rel => exact ⟨k + 1, by omega, by go_num, Lib.hid fun j hj => by
          by_cases e : j = k
          · rw [e, HX.out]; exact HE.out
          · exact HD.out j (by omega), HB2⟩
        case measure => simp [intOf]; omega
    · obtain rfl : k = n := by omega
      go_wp2
      go_ret
      exact ⟨HB.out, .inr ⟨rfl, HD.out⟩⟩
set_option maxRecDepth 100000 in
set_option maxHeartbeats 4000000 in
theorem DeleteRem_at (g cap n B pb : Nat) (c : List Nod) (s : ByteArray) (w : World) (hn : c.length = n) (hpos : 0 < n) (hfew : n ≤ 8000000000) (ho : OwnNods 36 w B (.slice (some ⟨g, 0, none⟩) n cap) c) (hle : n ≤ cap) (hm : cap ≤ maxLen) (hBw : B ≤ w.heap.size) (hp : w.cell? ⟨pb, 0, none⟩ = some (.string s)) (hlt : pb < B) (hs : s.size ≤ 4000000000) :
    Calls Tryd.prog 62 #[.slice (some ⟨g, 0, none⟩) n cap, .func (.func 63) #[] #[.pointer (some ⟨pb, 0, none⟩)]] w fun e w' => ∃ v, e = .returned v ∧ OwnNods 36 w' B v (c.filter fun x => !remB x s) ∧ Below B w w' := by
  have hat : NodsAt w g 0 c := fun i hi => by rw [Nat.zero_add]; subst hn; exact ho.nodAt hi
  have HIX := Lib.hid (IndexRem_at g 0 cap n c pb s w hn hle hm hat hp (Nat.lt_of_lt_of_le hlt hBw) hs)
  have HN := Lib.hid hn
  have HO := Lib.hid ho
  have HP := Lib.hid hp
  have HPL := Lib.hid hlt
  have HBW := Lib.hid hBw
  unfold maxLen at hm
  clear ho hp hlt hn hat hBw
  go_enter Tryd.func62, Tryd.ntmps62
  go_wp2_with fail
  refine HIX.out.mono ?_
  rintro e w1 ⟨hb, hcase⟩
  have HB1 := Lib.hid hb
  clear hb
  rcases hcase with ⟨k, hk, rfl, h1, h2⟩ | ⟨rfl, h2⟩
  · have HO1 := Lib.hid (HO.out.below HB1.out)
    have HD1 := Lib.hid (DelTo.start (p := fun x => !remB x s) (c := c) (by rw [HN.out]; exact hk) (fun j hj => by simp [h2 j hj]) (by simp [h1]))
    have HBB := Lib.hid (HB1.out.mono HBW.out)
    have hkm : ((k : Int) == -1) = false := by rw [beq_eq_false_iff_ne]; omega
    clear h1 h2
    go_wp2
    go_loopw [5, 6, 7] (fun i j _ wr => ∃ (a q : Nat) (m : List Nod), q ≤ n ∧ a < q ∧ i = .int .i64 a ∧ j = .int .i64 q ∧ Hid (OwnNods 36 wr B (.slice (some ⟨g, 0, none⟩) n cap) m) ∧ Hid (DelTo (fun x => !remB x s) c m a q) ∧ Hid (Below B w wr)) (fun _ j _ _ => n - (intOf j).toNat)
    case atStart => exact ⟨k, k + 1, c, by omega, by omega, rfl, by go_num, HO1, HD1, HBB⟩
    case round =>
      obtain ⟨a, q, m, hq, haq, rfl, rfl, HOM, HDM, HBM⟩ := hrel
      by_cases hlt : q < n
      · have hml : m.length = n := HDM.out.1.trans HN.out
        have hcn : c.length = n := HN.out
        have hxq := HDM.out.2.2.1 q (Nat.le_refl _) (by omega)
        have HGB := Lib.hid ((World.ownsRow.lt HOM.out.1 g rfl).1)
        have HIN := Lib.hid (HOM.out.nodInN hml hlt)
        have HKE := Lib.hid (fun h => HDM.out.keep (j := q) (by omega) h)
        have HSK := Lib.hid (fun h => HDM.out.skip (j := q) (by omega) h)
        have hnq := HOM.out.nodAtN hml hlt
        rw [hxq] at HIN hnq
        obtain ⟨h0, h1, h2, h3, h4, h5, h6, h7, h8, h9, h10, h11⟩ := hnq
        clear hxq hcn
        generalize nk c q = x at *
        have HBX := Lib.hid ((Below.refl wr.heap.size wr).alloc (Nat.le_refl _) (boxOf x))
        have HFC := Lib.hid (Rem1_any x pb s (wr.alloc (boxOf x)) ((HBX.out.cell (p := ⟨pb, 0, none⟩) (Nat.lt_of_lt_of_le HPL.out (Nat.le_trans HBW.out HBM.out.size))).trans ((HBM.out.cell (p := ⟨pb, 0, none⟩) HPL.out).trans HP.out)) (Nat.lt_of_lt_of_le HPL.out (Nat.le_trans HBW.out (Nat.le_trans HBM.out.size HBX.out.size))) hs)
        have HBZ := Lib.hid (nodAt_box wr x 36)
        by_cases he : remB x s = true
        · rw [he] at HFC
          have HSK2 := Lib.hid (HSK.out (by simp [he]))
          clear he
          go_wp2_with (go_at_call 63; refine HFC.out.mono ?_; rintro e w3 ⟨rfl, hb3⟩; have HB3 := Lib.hid (HBX.out.trans (hb3.mono HBX.out.size)); clear hb3)
          go_roundw
          case rel => exact ⟨a, q + 1, m, by omega, by omega, rfl, by go_num, Lib.hid (HOM.out.below HB3.out), HSK2, Lib.hid (HBM.out.trans (HB3.out.mono (Nat.le_trans HBW.out HBM.out.size)))⟩
          case measure => simp [intOf]; omega
        · have hf : remB x s = false := by simpa using he
          rw [hf] at HFC
          have HKE2 := Lib.hid (HKE.out (by simp [hf]))
          clear he hf
          go_wp2_with (go_at_call 63; refine HFC.out.mono ?_; rintro e w3 ⟨rfl, hb3⟩; have HB3 := Lib.hid (HBX.out.trans (hb3.mono HBX.out.size)); obtain ⟨c0, c1, c2, c3, c4, c5, c6, c7, c8, c9, c10, c11⟩ := (HBZ.out.below hb3).zero; clear hb3; have HO3 := Lib.hid (HOM.out.below HB3.out); obtain ⟨e0, e1, e2, e3, e4, e5, e6, e7, e8, e9, e10, e11⟩ := HO3.out.nodAtN hml (k := a) (by omega); have f0 := HO3.out.frozenAtN hml (a * 12); have f1 := HO3.out.frozenAtN hml (a * 12 + 1); have f2 := HO3.out.frozenAtN hml (a * 12 + 2); have f3 := HO3.out.frozenAtN hml (a * 12 + 3); have f4 := HO3.out.frozenAtN hml (a * 12 + 4); have f5 := HO3.out.frozenAtN hml (a * 12 + 5); have f6 := HO3.out.frozenAtN hml (a * 12 + 6); have f7 := HO3.out.frozenAtN hml (a * 12 + 7); have f8 := HO3.out.frozenAtN hml (a * 12 + 8); have f9 := HO3.out.frozenAtN hml (a * 12 + 9); have f10 := HO3.out.frozenAtN hml (a * 12 + 10); have f11 := HO3.out.frozenAtN hml (a * 12 + 11); have HPN := Lib.hid (HO3.out.putNode hml (k := a) (by omega) (HIN.out.below HB3.out)))
          go_roundw
          case rel => exact ⟨a + 1, q + 1, _, by omega, by omega, by go_num, by go_num, Lib.hid HPN.out.1, HKE2, Lib.hid ((HBM.out.trans (HB3.out.mono (Nat.le_trans HBW.out HBM.out.size))).grown HPN.out.2 (Nat.le_trans HBW.out (Nat.le_trans HBM.out.size HB3.out.size)) (fun k hk => by cases hk; exact HGB.out))⟩
          case measure => simp [intOf]; omega
      · obtain rfl : q = n := by omega
        have hml : m.length = q := HDM.out.1.trans HN.out
        have HDN := Lib.hid (show m.take a = c.filter fun x => !remB x s from DelTo.done (by rw [HN.out]; exact HDM.out))
        have HGB := Lib.hid ((World.ownsRow.lt HOM.out.1 g rfl).1)
        have hcl : ∀ ty, (Builtin.clear_ #[22] ty #[.slice (some ⟨g, a * 12, none⟩) (q - a) (cap - a)]).run Tryd.prog wr = .ok (.tuple #[]) (wr.setCells g (a * 12) (Builtin.zeroCells (nodZ'.cells) (q - a)).toList) := fun ty =>
          run_clear_row wr _ _ ty nodZ' Tryd.underlying22 (fun w => Tryd.zeroValue36 w) (by decide) (by intro u hu; simp [nodZ', Value.cells] at hu; rcases hu with rfl | rfl | rfl | rfl | rfl | rfl | rfl | rfl | rfl | rfl | rfl | rfl <;> rfl) g (a * 12) (q - a) (cap - a) (by omega) (fun j hj => HOM.out.someAt hml (by have : nodZ'.cells.size = 12 := rfl; rw [this] at hj; omega)) (fun j hj => HOM.out.frozenAtN hml _)
        have HCA := Lib.hid (HOM.out.cutAt hml (i := a) (by omega) (Builtin.zeroCells (nodZ'.cells) (q - a)).toList (by rw [Array.length_toList, size_zeroCells]; have : nodZ'.cells.size = 12 := rfl; rw [this]; omega))
        go_wp2
        go_ret
        exact ⟨_, rfl, by rw [← HDN.out]; exact HCA.out.1, HBM.out.grown HCA.out.2 (Nat.le_trans HBW.out HBM.out.size) (fun k hk => by cases hk; exact HGB.out)⟩
  · have HF := Lib.hid (show c.filter (fun x => !remB x s) = c by
      rw [List.filter_eq_self]
      intro x hx
      obtain ⟨j, hj, rfl⟩ := List.mem_iff_getElem.1 hx
      rw [← nk_eq hj, h2 j (by rw [← HN.out]; exact hj)]
      rfl)
    clear h2
    go_wp2
    go_ret
    exact ⟨_, rfl, by rw [HF.out]; exact HO.out.below HB1.out, HB1.out.mono HBW.out⟩
end Go.Proofs.YtiiojjhfncefgaaDoor
