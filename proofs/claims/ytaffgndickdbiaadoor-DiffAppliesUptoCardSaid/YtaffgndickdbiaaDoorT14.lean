/-
  Texts: StableLA, ClearRow, DelAt, SameChgs.
-/
import Derived.Test.YtaffgndickdbiaaDoorT13
import Derived.Deep.RegionLaw
set_option linter.unusedVariables false
set_option linter.unusedSimpArgs false
set_option linter.unusedSectionVars false
namespace Go.Proofs.YtaffgndickdbiaaDoor
open Go.Creel Go.RowKit
theorem SymMergeA_all (W0 : World) (g cap n : Nat) (hn : n ≤ cap) (hc : cap ≤ maxLen) (hfew : n ≤ 8000000000) (hM : MaxOk W0) : ∀ N : Nat, SymSays (SymCallA g cap n) 60 W0 g cap n N
  | 0 => fun p l r q w hN h hm hp hB hl hr h1 h2 a m b ha hmm hb => absurd hN (by omega)
  | N + 1 => fun p l r q w hN h hm hp hB hl hr h1 h2 a m b ha hmm hb => by
    by_cases e1 : l.length = 1
    · obtain ⟨y, rfl⟩ := List.length_eq_one_iff.1 e1
      exact SymAA_any W0 g cap n p r q y w h hm hn hc hfew hp hM hB hr a m b ha hmm hb
    · by_cases e2 : r.length = 1
      · obtain ⟨y, rfl⟩ := List.length_eq_one_iff.1 e2
        exact SymBA_any W0 g cap n p l q y w h hm hn hc hfew hp hM hB hl e1 a m b ha hmm hb
      · exact SymCA_any W0 g cap n N (SymMergeA_all W0 g cap n hn hc hfew hM N) p l r q w hN h hm hn hc hfew hp hM hB hl hr (by omega) (by omega) a m b ha hmm hb
set_option maxRecDepth 100000 in
set_option maxHeartbeats 4000000 in
theorem StableA_any (W0 : World) (g cap n : Nat) (l : List Nod) (w : World) (h : OwnNods 60 w W0.heap.size (.slice (some ⟨g, 0, none⟩) n cap) l) (hm : l.length = n) (hn : n ≤ cap) (hc : cap ≤ maxLen) (hfew : n ≤ 8000000000) (hp : PathsOk l) (hM : MaxOk W0) (hB : Below W0.heap.size W0 w) :
    Calls Tryd.prog 81 #[(.slice (some ⟨g, 0, none⟩) n cap), .int .i64 n, (.func (.func 50) #[] #[])] w fun e w' => e = .returned (.tuple #[]) ∧ OwnNods 60 w' W0.heap.size (.slice (some ⟨g, 0, none⟩) n cap) (isort l) ∧ Below W0.heap.size W0 w' := by
  have HINS := Lib.hid (fun (p x q : List Nod) (w : World) h hm hp hB a b ha hb => InsertA_any W0 g cap n p x q w h hm hn hc hfew hp hM hB a b ha hb)
  have HSYM := Lib.hid (fun N => SymMergeA_all W0 g cap n hn hc hfew hM N)
  unfold maxLen at hc
  have H := Lib.hid h
  have HB0 := Lib.hid hB
  have HP := Lib.hid hp
  have HLN := Lib.hid hm
  clear h hB hp hm hM
  go_enter Tryd.func81, Tryd.ntmps81
  go_wp2_with fail
  go_loopw [7, 8] (fun va vb wr => ∃ (a : Nat) (d : List Nod), va = .int .i64 (a : Int) ∧ vb = .int .i64 ((a + 20 : Nat) : Int) ∧ a ≤ n ∧ d.length = a ∧ Hid (d ++ chunkSort 20 (l.drop a) = chunkSort 20 l) ∧ Hid (PathsOk (d ++ l.drop a)) ∧ Hid (OwnNods 60 wr W0.heap.size (.slice (some ⟨g, 0, none⟩) n cap) (d ++ l.drop a)) ∧ Hid (Below W0.heap.size W0 wr)) (fun va _ _ => n - (intOf va).toNat)
  case atStart => exact ⟨0, [], rfl, rfl, by omega, rfl, Lib.hid rfl, HP, H, HB0⟩
  case round =>
    obtain ⟨a, d, rfl, rfl, han, hda, HE, HPD, HO, HB⟩ := hrel
    by_cases hlt : a + 20 ≤ n
    · have hle : ((a + 20 : Nat) : Int) ≤ (n : Int) := by omega
      have hl1 : (l.drop a).length = n - a := by rw [List.length_drop, HLN.out]
      have HX := Lib.hid (chunk_step (s := 20) (l := l.drop a) (by omega) (by omega))
      have e1 : l.drop a = (l.drop a).take 20 ++ (l.drop a).drop 20 := (List.take_append_drop 20 _).symm
      have e2 : (l.drop a).drop 20 = l.drop (a + 20) := by rw [List.drop_drop]
      have hx : ((l.drop a).take 20).length = 20 := by rw [List.length_take]; omega
      rw [e2] at HX e1
      rw [HX.out] at HE
      rw [e1] at HO HPD
      have hlen : (d ++ ((l.drop a).take 20 ++ l.drop (a + 20))).length = n := by simp only [List.length_append, hx, List.length_drop, HLN.out]; omega
      have HC := Lib.hid (HINS.out d ((l.drop a).take 20) (l.drop (a + 20)) wr HO.out hlen HPD.out HB.out a (a + 20) hda.symm (by omega))
      have HPN := Lib.hid (show PathsOk (d ++ isort ((l.drop a).take 20) ++ l.drop (a + 20)) by
        have := PathsOk.parts.1 HPD.out
        rw [List.append_assoc, PathsOk.parts]
        exact ⟨this.1, this.2.1.isort, this.2.2⟩)
      have hdn : (d ++ isort ((l.drop a).take 20)).length = a + 20 := by rw [List.length_append, isort_len]; omega
      have HEN := Lib.hid (show (d ++ isort ((l.drop a).take 20)) ++ chunkSort 20 (l.drop (a + 20)) = chunkSort 20 l by rw [List.append_assoc]; exact HE.out)
      clear e1 e2 HX hx hl1 hlen
      go_wp2_with fail
      refine HC.out.mono ?_
      rintro e w2 ⟨rfl, ho, hb⟩
      rw [← List.append_assoc] at ho
      have HO2 := Lib.hid ho
      have HB2 := Lib.hid hb
      clear ho hb
      go_wp2
      go_roundw
      case rel => exact ⟨a + 20, _, by go_num, by go_num, hlt, hdn, HEN, HPN, HO2, HB2⟩
      case measure => simp [intOf]; omega
    · have hle : ¬ ((a + 20 : Nat) : Int) ≤ (n : Int) := by omega
      have hl1 : (l.drop a).length = n - a := by rw [List.length_drop, HLN.out]
      have HX := Lib.hid (chunk_end (s := 20) (l := l.drop a) (by omega))
      rw [HX.out] at HE
      have ho1 := HO.out
      have hp1 := HPD.out
      rw [show d ++ l.drop a = d ++ (l.drop a ++ []) by simp] at ho1 hp1
      have HC := Lib.hid (HINS.out d (l.drop a) [] wr ho1 (by simp only [List.length_append, List.length_nil, hl1]; omega) hp1 HB.out a n hda.symm (by omega))
      have HEN := Lib.hid (show d ++ (isort (l.drop a) ++ []) = chunkSort 20 l by rw [List.append_nil]; exact HE.out)
      rw [HEN.out] at HC
      clear HX hl1 HE HPD HO ho1 hp1 HEN
      go_wp2_with fail
      refine HC.out.mono ?_
      rintro e w2 ⟨rfl, ho, hb⟩
      have HO2 := Lib.hid ho
      have HB2 := Lib.hid hb
      clear ho hb HC HB
      clear hlt hle hda han
      go_wp2_with fail
      go_loopw [6, 7, 8, 9] (fun vs _ _ _ wr => ∃ s : Nat, vs = .int .i64 (s : Int) ∧ 20 ≤ s ∧ s ≤ 16000000000 ∧ Hid (OwnNods 60 wr W0.heap.size (.slice (some ⟨g, 0, none⟩) n cap) (chunkSort s l)) ∧ Hid (Below W0.heap.size W0 wr)) (fun vs _ _ _ _ => n - (intOf vs).toNat)
      case atStart => exact ⟨20, rfl, by omega, by omega, HO2, HB2⟩
      case round =>
        obtain ⟨s, rfl, hs1, hs2, HO3, HB3⟩ := hrel
        by_cases hls : s < n
        · have hlsi : (s : Int) < (n : Int) := by omega
          clear HO2 HB2
          go_upto_region 9 with fail
          have h2s : 0 < 2 * s := by omega
          go_loopw [7, 8] (fun va vb wx => ∃ (a : Nat) (d : List Nod), va = .int .i64 (a : Int) ∧ vb = .int .i64 ((a + 2 * s : Nat) : Int) ∧ a ≤ n ∧ d.length = a ∧ Hid (d ++ chunkSort (2 * s) (l.drop a) = chunkSort (2 * s) l) ∧ Hid (PathsOk (d ++ chunkSort s (l.drop a))) ∧ Hid (OwnNods 60 wx W0.heap.size (.slice (some ⟨g, 0, none⟩) n cap) (d ++ chunkSort s (l.drop a))) ∧ Hid (Below W0.heap.size W0 wx)) (fun va _ _ => n - (intOf va).toNat)
          case atStart => exact ⟨0, [], rfl, by go_num, by omega, rfl, Lib.hid rfl, Lib.hid HP.out.chunk, HO3, HB3⟩
          case round =>
            obtain ⟨a, d, rfl, rfl, han, hda, HE, HPD, HO, HB⟩ := hrel
            have hl1 : (l.drop a).length = n - a := by rw [List.length_drop, HLN.out]
            obtain ⟨mm, hm0⟩ : ∃ mm, a + s = mm := ⟨_, rfl⟩
            have hmi : (a : Int) + (s : Int) = (mm : Int) := by omega
            obtain ⟨b, hb0⟩ : ∃ b, a + 2 * s = b := ⟨_, rfl⟩
            rw [hb0]
            by_cases hlt : b ≤ n
            · have hle : (b : Int) ≤ (n : Int) := by omega
              have e1 : (l.drop a).drop (2 * s) = l.drop b := by rw [List.drop_drop, hb0]
              have HX := Lib.hid (chunk_open (s := s) (l := l.drop a) (by omega) (by omega))
              have HY := Lib.hid (chunk_step (s := 2 * s) (l := l.drop a) (by omega) (by omega))
              have HZ := Lib.hid (chunk_pair (s := s) (l := l.drop a))
              rw [e1] at HX HY
              rw [HX.out] at HO HPD
              rw [HY.out] at HE
              have la : (isort ((l.drop a).take s)).length = s := by rw [isort_len, List.length_take]; omega
              have lb : (isort (((l.drop a).drop s).take s)).length = s := by rw [isort_len, List.length_take, List.length_drop]; omega
              have hlen : (d ++ (isort ((l.drop a).take s) ++ (isort (((l.drop a).drop s).take s) ++ chunkSort s (l.drop b)))).length = n := by
                simp only [List.length_append, la, lb, chunk_len, List.length_drop, HLN.out]; omega
              have HC := Lib.hid (HSYM.out (2 * s) d (isort ((l.drop a).take s)) (isort (((l.drop a).drop s).take s)) (chunkSort s (l.drop b)) wr (by omega) HO.out hlen HPD.out HB.out (isort_sorted _) (isort_sorted _) (by omega) (by omega) a mm b hda.symm (by omega) (by omega))
              rw [HZ.out] at HC
              have hdn : (d ++ isort ((l.drop a).take (2 * s))).length = b := by rw [List.length_append, isort_len, List.length_take]; omega
              have HEN := Lib.hid (show (d ++ isort ((l.drop a).take (2 * s))) ++ chunkSort (2 * s) (l.drop b) = chunkSort (2 * s) l by rw [List.append_assoc]; exact HE.out)
              have HPN := Lib.hid (show PathsOk ((d ++ isort ((l.drop a).take (2 * s))) ++ chunkSort s (l.drop b)) by
                have := PathsOk.parts.1 HPD.out
                rw [List.append_assoc, PathsOk.parts]
                refine ⟨this.1, ?_, (PathsOk.both.1 this.2.2).2⟩
                rw [← HZ.out]
                exact (PathsOk.both.2 ⟨this.2.1, (PathsOk.both.1 this.2.2).1⟩).isort)
              have HBB := Lib.hid hb0
              clear e1 HX HY HZ la lb hlen hl1 hm0 hb0
              go_wp2_with fail
              refine HC.out.mono ?_
              rintro e w2 ⟨rfl, ho, hb⟩
              rw [← List.append_assoc] at ho
              have HO2 := Lib.hid ho
              have HB2 := Lib.hid hb
              clear ho hb
              go_wp2
              go_roundw
              case rel => exact ⟨b, _, rfl, by go_num, hlt, hdn, HEN, HPN, HO2, HB2⟩
              case measure =>
                have hb0 := HBB.out
                simp [intOf]; omega
            · have hle : ¬ (b : Int) ≤ (n : Int) := by omega
              have hsb : a + s < n ∨ n ≤ a + s := by omega
              by_cases hmn : mm < n
              · have hmni : (mm : Int) < (n : Int) := by omega
                have HX := Lib.hid (chunk_last (s := s) (l := l.drop a) (by omega) (by omega) (by omega))
                have HZ := Lib.hid (chunk_merged (s := s) (l := l.drop a) (by omega))
                rw [HX.out] at HO HPD
                have la : (isort ((l.drop a).take s)).length = s := by rw [isort_len, List.length_take]; omega
                have lb : (isort ((l.drop a).drop s)).length = n - mm := by rw [isort_len, List.length_drop]; omega
                have ho1 := HO.out
                have hp1 := HPD.out
                have e0 : d ++ (isort ((l.drop a).take s) ++ isort ((l.drop a).drop s)) = d ++ (isort ((l.drop a).take s) ++ (isort ((l.drop a).drop s) ++ [])) := by simp
                rw [e0] at ho1 hp1
                have hlen : (d ++ (isort ((l.drop a).take s) ++ (isort ((l.drop a).drop s) ++ []))).length = n := by
                  simp only [List.length_append, la, lb, List.length_nil]; omega
                have HC := Lib.hid (HSYM.out (2 * s) d (isort ((l.drop a).take s)) (isort ((l.drop a).drop s)) [] wr (by omega) ho1 hlen hp1 HB.out (isort_sorted _) (isort_sorted _) (by omega) (by omega) a mm n hda.symm (by omega) (by omega))
                rw [HZ.out, List.append_nil, HE.out] at HC
                clear HX HZ la lb hlen ho1 hp1 e0 HO HPD hl1 hm0 hb0 hsb
                go_wp2_with fail
                refine HC.out.mono ?_
                rintro e w2 ⟨rfl, ho, hb⟩
                have HO2 := Lib.hid ho
                have HB2 := Lib.hid hb
                clear ho hb HC
                go_wp2
                go_roundw
                case rel => exact ⟨2 * s, by go_num, by omega, by omega, HO2, HB2⟩
                case measure => simp [intOf]; omega
              · have hmni : ¬ (mm : Int) < (n : Int) := by omega
                have HX := Lib.hid (chunk_double (s := s) (l := l.drop a) (by omega))
                rw [HX.out, HE.out] at HO
                clear HX HE HPD hl1 hm0 hb0 hsb
                go_wp2
                go_roundw
                case rel => exact ⟨2 * s, by go_num, by omega, by omega, HO, HB⟩
                case measure => simp [intOf]; omega
        · have HF := Lib.hid (chunk_end (s := s) (l := l) (by rw [HLN.out]; omega))
          rw [HF.out] at HO3
          clear HF HO2 HB2
          go_wp2
          go_end0
          exact ⟨rfl, HO3.out, HB3.out⟩
set_option maxRecDepth 100000 in
theorem InsertNilA_any (w : World) : Calls Tryd.prog 108 #[.slice none 0 0, .int .i64 0, .int .i64 0, (.func (.func 50) #[] #[])] w fun e w' => e = .returned (.tuple #[]) ∧ w' = w := by
  go_enter Tryd.func108, Tryd.ntmps108
  go_wp2_with fail
  go_loopw [8, 9] (fun v8 _ wr => v8 = .int .i64 1 ∧ wr = w) (fun _ _ _ => 0)
  case atStart => exact ⟨rfl, rfl⟩
  case round =>
    obtain ⟨rfl, rfl⟩ := hrel
    go_wp2
    go_end0
    exact ⟨rfl, rfl⟩
set_option maxRecDepth 100000 in
theorem StableNilA_any (w : World) : Calls Tryd.prog 81 #[.slice none 0 0, .int .i64 0, (.func (.func 50) #[] #[])] w fun e w' => e = .returned (.tuple #[]) ∧ w' = w := by
  have HI := Lib.hid (fun w => InsertNilA_any w)
  go_enter Tryd.func81, Tryd.ntmps81
  go_wp2_with fail
  go_loopw [7, 8] (fun va vb wr => va = .int .i64 0 ∧ vb = .int .i64 20 ∧ wr = w) (fun _ _ _ => 0)
  case atStart => exact ⟨rfl, rfl, rfl⟩
  case round =>
    obtain ⟨rfl, rfl, rfl⟩ := hrel
    go_wp2_with fail
    refine (HI.out _).mono ?_
    rintro e w2 ⟨rfl, rfl⟩
    go_wp2_with fail
    go_loopw [6, 7, 8, 9] (fun vs _ _ _ wx => vs = .int .i64 20 ∧ wx = w2) (fun _ _ _ _ _ => 0)
    case atStart => exact ⟨rfl, rfl⟩
    case round =>
      obtain ⟨rfl, rfl⟩ := hrel
      go_wp2
      go_end0
      exact ⟨rfl, rfl⟩
set_option maxRecDepth 100000 in
set_option maxHeartbeats 4000000 in
theorem SortStableA_any (W0 : World) (v : Value) (l : List Nod) (w : World) (h : OwnNods 60 w W0.heap.size v l) (hfew : l.length ≤ 8000000000) (hp : PathsOk l) (hM : MaxOk W0) (hB : Below W0.heap.size W0 w) :
    Calls Tryd.prog 45 #[v, (.func (.func 50) #[] #[])] w fun e w' => e = .returned (.tuple #[]) ∧ OwnNods 60 w' W0.heap.size v (isort l) ∧ Below W0.heap.size W0 w' := by
  rcases h.form with ⟨rfl, rfl⟩ | ⟨g, cap, rfl, hgB, hgw, hcap, hcm⟩
  · have HN := Lib.hid (StableNilA_any w)
    have H := Lib.hid h
    have HB0 := Lib.hid hB
    clear h hp hM hB hfew
    go_enter Tryd.func45, Tryd.ntmps45
    go_wp2_with fail
    refine HN.out.mono ?_
    rintro e w2 ⟨rfl, rfl⟩
    go_wp2
    go_end0
    exact ⟨rfl, H.out, HB0.out⟩
  · have HS := Lib.hid (StableA_any W0 g cap l.length l w h rfl hcap hcm hfew hp hM hB)
    unfold maxLen at hcm
    clear h hp hM hB
    go_enter Tryd.func45, Tryd.ntmps45
    go_wp2_with fail
    refine HS.out.mono ?_
    rintro e w2 ⟨rfl, ho, hb⟩
    have HO2 := Lib.hid ho
    have HB2 := Lib.hid hb
    clear ho hb
    go_wp2
    go_end0
    exact ⟨rfl, HO2.out, HB2.out⟩
end Go.Proofs.YtaffgndickdbiaaDoor
namespace Go.Creel
open Go.RowKit
theorem run_clear_row {P : Program} (w : World) (t e ty : TypeId) (z : Value) (ht : P.underlying t = some (.slice e)) (hv : ∀ w, (zeroValue e).run P w = .ok z w) (hpos : 0 < z.cells.size) (h1 : ∀ u ∈ z.cells.toList, u.oneCell' = true) (b o n c : Nat) (hn : 0 < n)
    (hc : ∀ j, j < n * z.cells.size → (w.cell? ⟨b, o + j, none⟩).isSome = true) (hf : ∀ j, j < n * z.cells.size → w.frozen? ⟨b, o + j, none⟩ = false) :
    (Builtin.clear_ #[t] ty #[.slice (some ⟨b, o, none⟩) n c]).run P w = .ok (.tuple #[]) (w.setCells b o (Builtin.zeroCells z.cells n).toList) := by
  have hl : (Builtin.zeroCells z.cells n).toList.length = n * z.cells.size := by rw [Array.length_toList, size_zeroCells]
  have hst := run_storeCells_cells (P := P) b o (Builtin.zeroCells z.cells n).toList 0 w (by rw [hl]; simpa using hc) (by rw [hl]; simpa using hf) (by
    intro v hv'
    apply h1
    simp only [Builtin.zeroCells, Array.toList_map, List.mem_map] at hv'
    obtain ⟨i, _, rfl⟩ := hv'
    have : i % z.cells.size < z.cells.size := Nat.mod_lt _ hpos
    rw [getElem!_pos z.cells _ this]
    exact Array.getElem_mem_toList this)
  simp only [Nat.add_zero] at hst
  obtain ⟨m, rfl⟩ : ∃ m, n = m + 1 := ⟨n - 1, by omega⟩
  simp [Builtin.clear_, run_underlying ht, hv, hst]
theorem flat_take : ∀ (l : List Nod) (i : Nat), (l.flatMap Nod.cells).take (i * 12) = (l.take i).flatMap Nod.cells
  | [], i => by simp
  | x :: r, 0 => by simp
  | x :: r, i + 1 => by
    rw [List.flatMap_cons, List.take_succ_cons, List.flatMap_cons, ← flat_take r i, List.take_append]
    have e : (i + 1) * 12 - x.cells.length = i * 12 := by rw [Nod.cells_len]; omega
    rw [e, List.take_of_length_le (by rw [Nod.cells_len]; omega)]
open Go.RowKit
theorem nods_oneCell (xs : List Nod) : ∀ u ∈ xs.flatMap Nod.cells, u.oneCell' = true := by
  intro u hu
  obtain ⟨x, _, hx⟩ := List.mem_flatMap.1 hu
  simp only [Nod.cells, List.mem_cons, List.not_mem_nil, or_false] at hx
  rcases hx with rfl | rfl | rfl | rfl | rfl | rfl | rfl | rfl | rfl | rfl | rfl | rfl <;> rfl
theorem OwnNods.moveAt {t : TypeId} {w : World} {B g cap k n : Nat} {m : List Nod} (h : OwnNods t w B (.slice (some ⟨g, 0, none⟩) n cap) m) (hm : m.length = n) (xs : List Nod) (hk : k + xs.length ≤ n) (hxs : ∀ x ∈ xs, x ∈ m) :
    OwnNods t (w.setCells g (k * 12) (xs.flatMap Nod.cells)) B (.slice (some ⟨g, 0, none⟩) (k + xs.length) cap) (m.take k ++ xs) ∧ w.grownBy (w.setCells g (k * 12) (xs.flatMap Nod.cells)) (some g) := by
  subst hm
  obtain ⟨m1, m2, m3, m4⟩ := setCells_meta g (xs.flatMap Nod.cells) (k * 12) w
  have hg : w.grownBy (w.setCells g (k * 12) (xs.flatMap Nod.cells)) (some g) := ⟨m1, m2, m3, by omega, fun j _ hj => setCells_other g (xs.flatMap Nod.cells) _ w j (fun e => hj (by rw [e]))⟩
  have hl : (m.take k ++ xs).length = k + xs.length := by rw [List.length_append, List.length_take]; omega
  refine ⟨⟨?_, fun x hx => ?_⟩, hg⟩
  · rw [hl]
    refine ⟨by rw [flat_len, hl], ?_⟩
    rcases h.1.2 with ⟨h', _⟩ | ⟨g', cap', cur, h', hb, hgg, hnc, hcm, hcs, htake⟩
    · cases h'
    · simp only [Value.slice.injEq, Option.some.injEq, Addr.mk.injEq, and_true, true_and] at h'
      obtain ⟨rfl, rfl⟩ := h'
      have hfit : k * 12 + (xs.flatMap Nod.cells).length ≤ cur.size := by rw [hcs, flat_len]; omega
      obtain ⟨cur', a1, a2, a3⟩ := setCells_row g (xs.flatMap Nod.cells) (k * 12) w cur hgg hfit
      refine .inr ⟨g, cap, cur', rfl, hb, a1, by omega, hcm, a2.trans hcs, ?_⟩
      rw [flat_len] at a3
      rw [show (k + xs.length) * 12 = k * 12 + xs.length * 12 by omega, a3, List.flatMap_append, ← flat_take, ← htake, List.take_take, Nat.min_eq_left (by omega)]
  · have hin : NodIn w (.slice (some ⟨g, 0, none⟩) m.length cap) x := by
      rcases List.mem_append.1 hx with e | e
      · exact h.2 x (List.mem_of_mem_take e)
      · exact h.2 x (hxs x e)
    exact ⟨hin.1.grown hg hin.2, hin.2⟩
theorem OwnNods.beyond {t : TypeId} {w : World} {B g cap k o : Nat} {m : List Nod} (h : OwnNods t w B (.slice (some ⟨g, 0, none⟩) k cap) m) (hm : m.length = k) (zs : List Value) (h1 : k * 12 ≤ o) (h2 : o + zs.length ≤ cap * 12) :
    OwnNods t (w.setCells g o zs) B (.slice (some ⟨g, 0, none⟩) k cap) m ∧ w.grownBy (w.setCells g o zs) (some g) := by
  subst hm
  obtain ⟨m1, m2, m3, m4⟩ := setCells_meta g zs o w
  have hg : w.grownBy (w.setCells g o zs) (some g) := ⟨m1, m2, m3, by omega, fun j _ hj => setCells_other g zs _ w j (fun e => hj (by rw [e]))⟩
  refine ⟨⟨⟨h.1.1, ?_⟩, fun x hx => ?_⟩, hg⟩
  · rcases h.1.2 with ⟨h', _⟩ | ⟨g', cap', cur, h', hb, hgg, hnc, hcm, hcs, htake⟩
    · cases h'
    · simp only [Value.slice.injEq, Option.some.injEq, Addr.mk.injEq, and_true, true_and] at h'
      obtain ⟨rfl, rfl⟩ := h'
      obtain ⟨cur', a1, a2, a3⟩ := setCells_row g zs o w cur hgg (by rw [hcs]; exact h2)
      refine .inr ⟨g, cap, cur', rfl, hb, a1, hnc, hcm, a2.trans hcs, ?_⟩
      have e := congrArg (List.take (m.length * 12)) a3
      have hcl : cur.toList.length = cap * 12 := by rw [Array.length_toList]; exact hcs
      rw [List.take_take, Nat.min_eq_left (by omega), List.take_append_of_le_length (by rw [List.length_take, hcl]; omega), List.take_take, Nat.min_eq_left (by omega)] at e
      rw [e, htake]
  · have hin := h.2 x hx
    exact ⟨hin.1.grown hg hin.2, hin.2⟩
theorem OwnNods.capAt {t : TypeId} {w : World} {B g cap k j : Nat} {m : List Nod} (h : OwnNods t w B (.slice (some ⟨g, 0, none⟩) k cap) m) (hm : m.length = k) (hj : j < cap * 12) : (w.cell? ⟨g, j, none⟩).isSome = true := by
  subst hm
  rcases h.1.2 with ⟨h', _⟩ | ⟨g', cap', cur, h', hb, hgg, hnc, hcm, hcs, htake⟩
  · cases h'
  · simp only [Value.slice.injEq, Option.some.injEq, Addr.mk.injEq, and_true, true_and] at h'
    obtain ⟨rfl, rfl⟩ := h'
    rw [cell_of_row w g j cur t (0, 0) hgg, Array.getElem?_eq_getElem (by rw [hcs]; exact hj)]
    rfl
abbrev nodZD : Value := .agg #[.string ⟨#[]⟩, .int .i64 0, .int .i64 0, .string ⟨#[]⟩, .int .i64 0, .int .i64 0, .int .i64 0, .string ⟨#[]⟩, .string ⟨#[]⟩, .int .i64 0, .int .i64 0, .slice none 0 0]
theorem erase_eq (l : List Nod) (i : Nat) : l.take i ++ l.drop (i + 1) = l.eraseIdx i := (List.eraseIdx_eq_take_drop_succ l i).symm
end Go.Creel
namespace Go.Proofs.YtaffgndickdbiaaDoor
open Go.Creel Go.RowKit
set_option maxRecDepth 1000000 in
set_option maxHeartbeats 4000000 in
theorem DelAt_any (W0 : World) (g cap n i : Nat) (m : List Nod) (w : World) (h : OwnNods 60 w W0.heap.size (.slice (some ⟨g, 0, none⟩) n cap) m) (hm : m.length = n) (hn : n ≤ cap) (hc : cap ≤ maxLen) (hi : i < n) (hB : Below W0.heap.size W0 w) :
    Calls Tryd.prog 49 #[.slice (some ⟨g, 0, none⟩) n cap, .int .i64 i, .int .i64 ((i : Int) + 1)] w fun e w' => ∃ v', e = .returned v' ∧ OwnNods 60 w' W0.heap.size v' (m.eraseIdx i) ∧ Below W0.heap.size W0 w' := by
  unfold maxLen at hc
  obtain ⟨i0, hi0, hz0, hz1, hz2⟩ := info_parts info_node
  have hlx : (m.drop (i + 1)).length = n - (i + 1) := by rw [List.length_drop, hm]
  obtain ⟨A, hA, HNEWS⟩ : ∃ A : Addr, (if cap = i + 1 then some (⟨g, 0, none⟩ : Addr) else some ⟨g, (i + 1) * 12, none⟩) = some A ∧ Hid (∀ j u, ((m.drop (i + 1)).flatMap Nod.cells)[j]? = some u → w.drew.cell? (A.add j) = some u) := by
    by_cases e : cap = i + 1
    · refine ⟨⟨g, 0, none⟩, by simp [e], Lib.hid fun j u hu => ?_⟩
      have h0 : m.drop (i + 1) = [] := List.eq_nil_of_length_eq_zero (by omega)
      rw [h0] at hu
      simp at hu
    · refine ⟨⟨g, (i + 1) * 12, none⟩, by simp [e], Lib.hid fun j u hu => ?_⟩
      have hj : j < (n - (i + 1)) * 12 := by
        have := (List.getElem?_eq_some_iff.1 hu).1
        rwa [flat_len, hlx] at this
      rw [Addr.add_lit]
      have h' := h
      rw [← hm] at h'
      have h1 := h'.1.cellAt ((i + 1) * 12 + j) (by omega)
      have e2 : ((m.drop (i + 1)).flatMap Nod.cells)[j]? = (m.flatMap Nod.cells)[(i + 1) * 12 + j]? := by
        have e3 : m.flatMap Nod.cells = (m.take (i + 1)).flatMap Nod.cells ++ (m.drop (i + 1)).flatMap Nod.cells := by rw [← List.flatMap_append, List.take_append_drop]
        rw [e3, List.getElem?_append_right (by rw [flat_len, List.length_take]; omega)]
        congr 1
        rw [flat_len, List.length_take]; omega
      rw [e2] at hu
      exact h1.trans hu
  obtain ⟨n1, rfl⟩ : ∃ n1, n = n1 + 1 := ⟨n - 1, by omega⟩
  have hnl : ((m.drop (i + 1)).flatMap Nod.cells).length = (n1 + 1 - (i + 1)) * 12 := by rw [flat_len, hlx]
  have HN := Lib.hid hnl
  have HONE := Lib.hid (nods_oneCell (m.drop (i + 1)))
  have HSP := Lib.hid (show ∀ j, j < ((m.drop (i + 1)).flatMap Nod.cells).length → (w.drew.cell? ⟨g, 0 + i * 12 + j, none⟩).isSome = true ∧ w.drew.frozen? ⟨g, 0 + i * 12 + j, none⟩ = false from fun j hj => by
    rw [hnl] at hj
    rw [Nat.zero_add]
    exact ⟨h.capAt hm (by omega), h.frozenAtN hm _⟩)
  have HMV := Lib.hid ((h.below (Below.refl _ _).drew).moveAt hm (k := i) (m.drop (i + 1)) (by omega) (fun x hx => List.mem_of_mem_drop hx))
  rw [hlx, show i + (n1 + 1 - (i + 1)) = n1 by omega, erase_eq] at HMV
  have hel : (m.eraseIdx i).length = n1 := by rw [List.length_eraseIdx, if_pos (by omega)]; omega
  have hrow := World.ownsRow.lt h.1 g rfl
  have HBD := Lib.hid (below_grownR hB.drew HMV.out.2 (Nat.le_of_lt (Nat.lt_of_le_of_lt hrow.1 hrow.2)) hrow.1)
  have hz12 : (Builtin.zeroCells (nodZD.cells) 1).toList.length = 12 := by rw [Array.length_toList, size_zeroCells]; rfl
  have HBE := Lib.hid (HMV.out.1.beyond hel (Builtin.zeroCells (nodZD.cells) 1).toList (o := n1 * 12) (Nat.le_refl _) (by rw [hz12]; omega))
  have HBF := Lib.hid (below_grownR HBD.out HBE.out.2 (by have h1 := (World.ownsRow.lt HMV.out.1.1 g rfl); exact Nat.le_of_lt (Nat.lt_of_le_of_lt h1.1 h1.2)) hrow.1)
  have hcl : ∀ ty, (Builtin.clear_ #[22] ty #[.slice (some ⟨g, n1 * 12, none⟩) 1 (cap - n1)]).run Tryd.prog (w.drew.setCells g (i * 12) ((m.drop (i + 1)).flatMap Nod.cells)) = .ok (.tuple #[]) ((w.drew.setCells g (i * 12) ((m.drop (i + 1)).flatMap Nod.cells)).setCells g (n1 * 12) (Builtin.zeroCells (nodZD.cells) 1).toList) := fun ty =>
    run_clear_row _ _ _ ty nodZD Tryd.underlying22 (fun w => Tryd.zeroValue60 w) (by decide) (by intro u hu; simp [nodZD, Value.cells] at hu; rcases hu with rfl | rfl | rfl | rfl | rfl | rfl | rfl | rfl | rfl | rfl | rfl | rfl <;> rfl) g (n1 * 12) 1 (cap - n1) (by omega) (fun j hj => HMV.out.1.capAt hel (by have : nodZD.cells.size = 12 := rfl; rw [this] at hj; omega)) (fun j hj => HMV.out.1.frozenAtN hel _)
  have hp0 : (0 : Int) ≤ (i : Int) + 1 := by omega
  have hp1 : (i : Int) + 1 ≤ ((n1 + 1 : Nat) : Int) := by omega
  have hp2 : ((i : Int) + 1).toNat = i + 1 := by omega
  have hic : i ≤ cap := by omega
  have hin1 : i + (n1 - i) = n1 := by omega
  have hini : (i : Int) + ((n1 - i : Nat) : Int) = (n1 : Int) := by omega
  have hici : (i : Int) ≤ (cap : Int) := by omega
  have hp5 : (i : Int) + 1 ≤ (n1 : Int) + 1 := by omega
  have hp3 : (i : Int) ≤ (i : Int) + 1 := by omega
  have hp4 : ((i : Int) == (i : Int) + 1) = false := by rw [beq_eq_false_iff_ne]; omega
  clear h hB hm hlx hnl hel hz12 hrow
  go_enter Tryd.func49, Tryd.ntmps49
  go_wp2_with fail
  go_region_law (refine step_append_room rfl (.tmp 22) (.tmp 25) 22 rfl 60 i0 12 Tryd.underlying22 hi0 hz1 g 0 i cap (by simp [Act.eval, Act.put]) A (n1 + 1 - (i + 1)) (cap - (i + 1)) ((m.drop (i + 1)).flatMap Nod.cells) (by simp [Act.eval, Act.put]) HN.out HNEWS.out HONE.out (by omega) HSP.out ?_)
  try rw [Nat.zero_add]
  try rw [show i + (n1 + 1 - (i + 1)) = n1 by omega]
  go_wp2
  go_ret
  exact ⟨_, rfl, HBE.out.1, HBF.out⟩
end Go.Proofs.YtaffgndickdbiaaDoor
namespace Go.Creel
open Go.RowKit
def ChgCells (w : World) (b o : Nat) (x : Chg) : Prop := w.cell? ⟨b, o, none⟩ = some (.int .i64 x.kind) ∧ w.cell? ⟨b, o + 1, none⟩ = some (.string x.node.path) ∧ w.cell? ⟨b, o + 2, none⟩ = some (.int .i64 x.node.kind) ∧ w.cell? ⟨b, o + 3, none⟩ = some (.int .i64 x.node.same) ∧ w.cell? ⟨b, o + 4, none⟩ = some (.string x.node.target) ∧ w.cell? ⟨b, o + 5, none⟩ = some (.int .i64 x.node.mt.mode) ∧ w.cell? ⟨b, o + 6, none⟩ = some (.int .i64 x.node.mt.uid) ∧ w.cell? ⟨b, o + 7, none⟩ = some (.int .i64 x.node.mt.gid) ∧ w.cell? ⟨b, o + 8, none⟩ = some (.string x.node.mt.user) ∧ w.cell? ⟨b, o + 9, none⟩ = some (.string x.node.mt.group) ∧ w.cell? ⟨b, o + 10, none⟩ = some (.int .i64 x.node.mt.second) ∧ w.cell? ⟨b, o + 11, none⟩ = some (.int .i64 x.node.mt.nano) ∧ w.cell? ⟨b, o + 12, none⟩ = some (.slice x.node.da x.node.data.length x.node.dcap)
theorem ChgAt.cells {w : World} {b o : Nat} {x : Chg} (h : ChgAt w b o x) : ChgCells w b o x := by
  obtain ⟨h0, h1, h2, h3, h4, h5, h6, h7, h8, h9, h10, h11, h12⟩ := h
  exact ⟨h0, h1, h2, h3, h4, h5, h6, h7, h8, h9, h10, h11, h12⟩
theorem ChgCells.below {w w' : World} {b o : Nat} {x : Chg} (h : ChgCells w b o x) (hb : Below w.heap.size w w') : ChgCells w' b o x := by
  have hlt : b < w.heap.size := World.block_lt_of_cell? w _ h.1
  obtain ⟨h0, h1, h2, h3, h4, h5, h6, h7, h8, h9, h10, h11, h12⟩ := h
  exact ⟨(hb.cell (p := ⟨b, o, none⟩) hlt).trans h0, (hb.cell (p := ⟨b, o + 1, none⟩) hlt).trans h1, (hb.cell (p := ⟨b, o + 2, none⟩) hlt).trans h2, (hb.cell (p := ⟨b, o + 3, none⟩) hlt).trans h3, (hb.cell (p := ⟨b, o + 4, none⟩) hlt).trans h4, (hb.cell (p := ⟨b, o + 5, none⟩) hlt).trans h5, (hb.cell (p := ⟨b, o + 6, none⟩) hlt).trans h6, (hb.cell (p := ⟨b, o + 7, none⟩) hlt).trans h7, (hb.cell (p := ⟨b, o + 8, none⟩) hlt).trans h8, (hb.cell (p := ⟨b, o + 9, none⟩) hlt).trans h9, (hb.cell (p := ⟨b, o + 10, none⟩) hlt).trans h10, (hb.cell (p := ⟨b, o + 11, none⟩) hlt).trans h11, (hb.cell (p := ⟨b, o + 12, none⟩) hlt).trans h12⟩
abbrev Chg.val (x : Chg) : Value := .agg #[.int .i64 x.kind, .string x.node.path, .int .i64 x.node.kind, .int .i64 x.node.same, .string x.node.target, .int .i64 x.node.mt.mode, .int .i64 x.node.mt.uid, .int .i64 x.node.mt.gid, .string x.node.mt.user, .string x.node.mt.group, .int .i64 x.node.mt.second, .int .i64 x.node.mt.nano, .slice x.node.da x.node.data.length x.node.dcap]
end Go.Creel
namespace Go.Proofs.YtaffgndickdbiaaDoor
open Go.Creel Go.RowKit
abbrev boxC (x : Chg) : Obj := .cells #[.int .i64 x.kind, .string x.node.path, .int .i64 x.node.kind, .int .i64 x.node.same, .string x.node.target, .int .i64 x.node.mt.mode, .int .i64 x.node.mt.uid, .int .i64 x.node.mt.gid, .string x.node.mt.user, .string x.node.mt.group, .int .i64 x.node.mt.second, .int .i64 x.node.mt.nano, .slice x.node.da x.node.data.length x.node.dcap] 62
end Go.Proofs.YtaffgndickdbiaaDoor
