/-
  Texts: Chunk, StableL, NodsCut, IsortR, MaxOk, Laid, Bulk.
-/
import Derived.Test.YtaffgndickdbiaaDoorS07
import Derived.Shaped
import Derived.Test.YtaffgndickdbiaaDoorRows
import Derived.Deep.DeepHandedRow
import Derived.Lib.LaidTab
set_option linter.unusedVariables false
set_option linter.unusedSimpArgs false
set_option linter.unusedSectionVars false
namespace Go.Creel
open Go.RowKit
def chunkF : Nat → Nat → List Nod → List Nod
  | 0, _, l => isort l
  | k + 1, s, l => if s < l.length then isort (l.take s) ++ chunkF k s (l.drop s) else isort l
theorem chunkF_end {k s : Nat} {l : List Nod} (h : l.length ≤ s) : chunkF k s l = isort l := by
  cases k with
  | zero => rfl
  | succ k => unfold chunkF; rw [if_neg (by omega)]
theorem chunkF_eq {s : Nat} (hs : 0 < s) : ∀ (k j : Nat) (l : List Nod), l.length ≤ k → l.length ≤ j → chunkF k s l = chunkF j s l
  | 0, j, l, h, _ => by
    rw [chunkF_end (k := j) (by omega)]; rfl
  | k + 1, 0, l, _, h => by
    rw [chunkF_end (k := k + 1) (by omega)]; rfl
  | k + 1, j + 1, l, h1, h2 => by
    unfold chunkF
    by_cases h : s < l.length
    · rw [if_pos h, if_pos h, chunkF_eq hs k j (l.drop s) (by rw [List.length_drop]; omega) (by rw [List.length_drop]; omega)]
    · rw [if_neg h, if_neg h]
def chunkSort (s : Nat) (l : List Nod) : List Nod := chunkF l.length s l
theorem chunk_end {s : Nat} {l : List Nod} (h : l.length ≤ s) : chunkSort s l = isort l := chunkF_end h
theorem chunk_step {s : Nat} {l : List Nod} (hs : 0 < s) (h : s ≤ l.length) : chunkSort s l = isort (l.take s) ++ chunkSort s (l.drop s) := by
  have hl : (l.drop s).length = l.length - s := List.length_drop ..
  by_cases e : s < l.length
  · obtain ⟨k, hk⟩ : ∃ k, l.length = k + 1 := ⟨l.length - 1, by omega⟩
    unfold chunkSort
    rw [hk]
    conv => lhs; unfold chunkF
    rw [if_pos e, chunkF_eq hs k (l.drop s).length (l.drop s) (by omega) (Nat.le_refl _)]
  · rw [chunk_end (by omega), chunk_end (by omega), List.take_of_length_le (by omega), List.drop_eq_nil_of_le (by omega)]
    exact (List.append_nil _).symm
theorem chunkF_len (s : Nat) : ∀ (k : Nat) (l : List Nod), (chunkF k s l).length = l.length
  | 0, l => isort_len l
  | k + 1, l => by
    unfold chunkF
    split
    · rw [List.length_append, isort_len, chunkF_len s k, List.length_take, List.length_drop]; omega
    · exact isort_len l
theorem chunk_len (s : Nat) (l : List Nod) : (chunkSort s l).length = l.length := chunkF_len s _ l
theorem chunkF_mem (s : Nat) {x : Nod} : ∀ (k : Nat) (l : List Nod), x ∈ chunkF k s l → x ∈ l
  | 0, l, h => isort_mem.1 h
  | k + 1, l, h => by
    unfold chunkF at h
    split at h
    · rcases List.mem_append.1 h with h | h
      · exact List.mem_of_mem_take (isort_mem.1 h)
      · exact List.mem_of_mem_drop (chunkF_mem s k _ h)
    · exact isort_mem.1 h
theorem chunk_mem {s : Nat} {x : Nod} {l : List Nod} (h : x ∈ chunkSort s l) : x ∈ l := chunkF_mem s _ l h
theorem PathsOk.chunk {s : Nat} {l : List Nod} (h : PathsOk l) : PathsOk (chunkSort s l) := fun x hx => h x (chunk_mem hx)
theorem PathsOk.both {l m : List Nod} : PathsOk (l ++ m) ↔ PathsOk l ∧ PathsOk m := by
  unfold PathsOk
  simp only [List.mem_append]
  exact ⟨fun h => ⟨fun x hx => h x (.inl hx), fun x hx => h x (.inr hx)⟩, fun h x hx => hx.elim (h.1 x) (h.2 x)⟩
theorem chunk_open {s : Nat} {l : List Nod} (hs : 0 < s) (h : 2 * s ≤ l.length) : chunkSort s l = isort (l.take s) ++ (isort ((l.drop s).take s) ++ chunkSort s (l.drop (2 * s))) := by
  rw [chunk_step hs (by omega), chunk_step (l := l.drop s) hs (by rw [List.length_drop]; omega), List.drop_drop, show s + s = 2 * s by omega]
theorem chunk_pair {s : Nat} {l : List Nod} : isort (isort (l.take s) ++ isort ((l.drop s).take s)) = isort (l.take (2 * s)) := by
  rw [isort_parts, ← List.take_add, show s + s = 2 * s by omega]
theorem chunk_last {s : Nat} {l : List Nod} (hs : 0 < s) (h : s ≤ l.length) (h2 : l.length ≤ 2 * s) : chunkSort s l = isort (l.take s) ++ isort (l.drop s) := by
  rw [chunk_step hs h, chunk_end (l := l.drop s) (by rw [List.length_drop]; omega)]
theorem chunk_merged {s : Nat} {l : List Nod} (h2 : l.length ≤ 2 * s) : isort (isort (l.take s) ++ isort (l.drop s)) = chunkSort (2 * s) l := by
  rw [isort_parts, List.take_append_drop, chunk_end h2]
theorem chunk_double {s : Nat} {l : List Nod} (h : l.length ≤ s) : chunkSort s l = chunkSort (2 * s) l := by rw [chunk_end h, chunk_end (by omega)]
end Go.Creel
namespace Go.Proofs.YtaffgndickdbiaaDoor
open Go.Creel Go.RowKit
theorem SymMerge_all (W0 : World) (g cap n : Nat) (hn : n ≤ cap) (hc : cap ≤ maxLen) (hfew : n ≤ 8000000000) (hM : MaxOk W0) : ∀ N : Nat, SymSays (SymCall g cap n) 60 W0 g cap n N
  | 0 => fun p l r q w hN h hm hp hB hl hr h1 h2 a m b ha hmm hb => absurd hN (by omega)
  | N + 1 => fun p l r q w hN h hm hp hB hl hr h1 h2 a m b ha hmm hb => by
    by_cases e1 : l.length = 1
    · obtain ⟨y, rfl⟩ := List.length_eq_one_iff.1 e1
      exact SymA_any W0 g cap n p r q y w h hm hn hc hfew hp hM hB hr a m b ha hmm hb
    · by_cases e2 : r.length = 1
      · obtain ⟨y, rfl⟩ := List.length_eq_one_iff.1 e2
        exact SymB_any W0 g cap n p l q y w h hm hn hc hfew hp hM hB hl e1 a m b ha hmm hb
      · exact SymC_any W0 g cap n N (SymMerge_all W0 g cap n hn hc hfew hM N) p l r q w hN h hm hn hc hfew hp hM hB hl hr (by omega) (by omega) a m b ha hmm hb
set_option maxRecDepth 100000 in
set_option maxHeartbeats 4000000 in
theorem Stable_any (W0 : World) (g cap n : Nat) (l : List Nod) (w : World) (h : OwnNods 60 w W0.heap.size (.slice (some ⟨g, 0, none⟩) n cap) l) (hm : l.length = n) (hn : n ≤ cap) (hc : cap ≤ maxLen) (hfew : n ≤ 8000000000) (hp : PathsOk l) (hM : MaxOk W0) (hB : Below W0.heap.size W0 w) :
    Calls Tryd.prog 81 #[(.slice (some ⟨g, 0, none⟩) n cap), .int .i64 n, (.func (.func 46) #[] #[])] w fun e w' => e = .returned (.tuple #[]) ∧ OwnNods 60 w' W0.heap.size (.slice (some ⟨g, 0, none⟩) n cap) (isort l) ∧ Below W0.heap.size W0 w' := by
  have HINS := Lib.hid (fun (p x q : List Nod) (w : World) h hm hp hB a b ha hb => Insert_any W0 g cap n p x q w h hm hn hc hfew hp hM hB a b ha hb)
  have HSYM := Lib.hid (fun N => SymMerge_all W0 g cap n hn hc hfew hM N)
  unfold maxLen at hc
  have H := Lib.hid h
  have HB0 := Lib.hid hB
  have HP := Lib.hid hp
  have HLN := Lib.hid hm
  clear h hB hp hm hM
  go_enter Tryd.func81, Tryd.ntmps81
  go_wp2_with fail
  go_loopw [7, 8] (fun va vb wr => ∃ (a : Nat) (d : List Nod), va = .int .i64 (a : Int) ∧ vb = .int .i64 ((a + 20 : Nat) : Int) ∧ a ≤ n ∧ d.length = a ∧ Hid (d ++ chunkSort 20 (l.drop a) = chunkSort 20 l) ∧ Hid (PathsOk (d ++ l.drop a)) ∧ Hid (OwnNods 60 wr W0.heap.size (.slice (some ⟨g, 0, none⟩) n cap) (d ++ l.drop a)) ∧ Hid (Below W0.heap.size W0 wr)) (fun va _ _ => n - (intOf va).toNat)
  case atStart => exact ⟨0, [], rfl, rfl, by omega, rfl, Lib.hid rfl, HP, H, HB0⟩
  case round =>
    obtain ⟨a, d, rfl, rfl, han, hda, HE, HPD, HO, HB⟩ := hrel
    by_cases hlt : a + 20 ≤ n
    · have hle : ((a + 20 : Nat) : Int) ≤ (n : Int) := by omega
      have hl1 : (l.drop a).length = n - a := by rw [List.length_drop, HLN.out]
      have HX := Lib.hid (chunk_step (s := 20) (l := l.drop a) (by omega) (by omega))
      have e1 : l.drop a = (l.drop a).take 20 ++ (l.drop a).drop 20 := (List.take_append_drop 20 _).symm
      have e2 : (l.drop a).drop 20 = l.drop (a + 20) := by rw [List.drop_drop]
      have hx : ((l.drop a).take 20).length = 20 := by rw [List.length_take]; omega
      rw [e2] at HX e1
      rw [HX.out] at HE
      rw [e1] at HO HPD
      have hlen : (d ++ ((l.drop a).take 20 ++ l.drop (a + 20))).length = n := by simp only [List.length_append, hx, List.length_drop, HLN.out]; omega
      have HC := Lib.hid (HINS.out d ((l.drop a).take 20) (l.drop (a + 20)) wr HO.out hlen HPD.out HB.out a (a + 20) hda.symm (by omega))
      have HPN := Lib.hid (show PathsOk (d ++ isort ((l.drop a).take 20) ++ l.drop (a + 20)) by
        have := PathsOk.parts.1 HPD.out
        rw [List.append_assoc, PathsOk.parts]
        exact ⟨this.1, this.2.1.isort, this.2.2⟩)
      have hdn : (d ++ isort ((l.drop a).take 20)).length = a + 20 := by rw [List.length_append, isort_len]; omega
      have HEN := Lib.hid (show (d ++ isort ((l.drop a).take 20)) ++ chunkSort 20 (l.drop (a + 20)) = chunkSort 20 l by rw [List.append_assoc]; exact HE.out)
      clear e1 e2 HX hx hl1 hlen
      go_wp2_with fail
      refine HC.out.mono ?_
      rintro e w2 ⟨rfl, ho, hb⟩
      rw [← List.append_assoc] at ho
      have HO2 := Lib.hid ho
      have HB2 := Lib.hid hb
      clear ho hb
      go_wp2
      go_roundw
      case rel => exact ⟨a + 20, _, by go_num, by go_num, hlt, hdn, HEN, HPN, HO2, HB2⟩
      case measure => simp [intOf]; omega
    · have hle : ¬ ((a + 20 : Nat) : Int) ≤ (n : Int) := by omega
      have hl1 : (l.drop a).length = n - a := by rw [List.length_drop, HLN.out]
      have HX := Lib.hid (chunk_end (s := 20) (l := l.drop a) (by omega))
      rw [HX.out] at HE
      have ho1 := HO.out
      have hp1 := HPD.out
      rw [show d ++ l.drop a = d ++ (l.drop a ++ []) by simp] at ho1 hp1
      have HC := Lib.hid (HINS.out d (l.drop a) [] wr ho1 (by simp only [List.length_append, List.length_nil, hl1]; omega) hp1 HB.out a n hda.symm (by omega))
      have HEN := Lib.hid (show d ++ (isort (l.drop a) ++ []) = chunkSort 20 l by rw [List.append_nil]; exact HE.out)
      rw [HEN.out] at HC
      clear HX hl1 HE HPD HO ho1 hp1 HEN
      go_wp2_with fail
      refine HC.out.mono ?_
      rintro e w2 ⟨rfl, ho, hb⟩
      have HO2 := Lib.hid ho
      have HB2 := Lib.hid hb
      clear ho hb HC HB
      clear hlt hle hda han
      go_wp2_with fail
      go_loopw [6, 7, 8, 9] (fun vs _ _ _ wr => ∃ s : Nat, vs = .int .i64 (s : Int) ∧ 20 ≤ s ∧ s ≤ 16000000000 ∧ Hid (OwnNods 60 wr W0.heap.size (.slice (some ⟨g, 0, none⟩) n cap) (chunkSort s l)) ∧ Hid (Below W0.heap.size W0 wr)) (fun vs _ _ _ _ => n - (intOf vs).toNat)
      case atStart => exact ⟨20, rfl, by omega, by omega, HO2, HB2⟩
      case round =>
        obtain ⟨s, rfl, hs1, hs2, HO3, HB3⟩ := hrel
        by_cases hls : s < n
        · have hlsi : (s : Int) < (n : Int) := by omega
          clear HO2 HB2
          go_upto_region 9 with fail
          have h2s : 0 < 2 * s := by omega
          go_loopw [7, 8] (fun va vb wx => ∃ (a : Nat) (d : List Nod), va = .int .i64 (a : Int) ∧ vb = .int .i64 ((a + 2 * s : Nat) : Int) ∧ a ≤ n ∧ d.length = a ∧ Hid (d ++ chunkSort (2 * s) (l.drop a) = chunkSort (2 * s) l) ∧ Hid (PathsOk (d ++ chunkSort s (l.drop a))) ∧ Hid (OwnNods 60 wx W0.heap.size (.slice (some ⟨g, 0, none⟩) n cap) (d ++ chunkSort s (l.drop a))) ∧ Hid (Below W0.heap.size W0 wx)) (fun va _ _ => n - (intOf va).toNat)
          case atStart => exact ⟨0, [], rfl, by go_num, by omega, rfl, Lib.hid rfl, Lib.hid HP.out.chunk, HO3, HB3⟩
          case round =>
            obtain ⟨a, d, rfl, rfl, han, hda, HE, HPD, HO, HB⟩ := hrel
            have hl1 : (l.drop a).length = n - a := by rw [List.length_drop, HLN.out]
            obtain ⟨mm, hm0⟩ : ∃ mm, a + s = mm := ⟨_, rfl⟩
            have hmi : (a : Int) + (s : Int) = (mm : Int) := by omega
            obtain ⟨b, hb0⟩ : ∃ b, a + 2 * s = b := ⟨_, rfl⟩
            rw [hb0]
            by_cases hlt : b ≤ n
            · have hle : (b : Int) ≤ (n : Int) := by omega
              have e1 : (l.drop a).drop (2 * s) = l.drop b := by rw [List.drop_drop, hb0]
              have HX := Lib.hid (chunk_open (s := s) (l := l.drop a) (by omega) (by omega))
              have HY := Lib.hid (chunk_step (s := 2 * s) (l := l.drop a) (by omega) (by omega))
              have HZ := Lib.hid (chunk_pair (s := s) (l := l.drop a))
              rw [e1] at HX HY
              rw [HX.out] at HO HPD
              rw [HY.out] at HE
              have la : (isort ((l.drop a).take s)).length = s := by rw [isort_len, List.length_take]; omega
              have lb : (isort (((l.drop a).drop s).take s)).length = s := by rw [isort_len, List.length_take, List.length_drop]; omega
              have hlen : (d ++ (isort ((l.drop a).take s) ++ (isort (((l.drop a).drop s).take s) ++ chunkSort s (l.drop b)))).length = n := by
                simp only [List.length_append, la, lb, chunk_len, List.length_drop, HLN.out]; omega
              have HC := Lib.hid (HSYM.out (2 * s) d (isort ((l.drop a).take s)) (isort (((l.drop a).drop s).take s)) (chunkSort s (l.drop b)) wr (by omega) HO.out hlen HPD.out HB.out (isort_sorted _) (isort_sorted _) (by omega) (by omega) a mm b hda.symm (by omega) (by omega))
              rw [HZ.out] at HC
              have hdn : (d ++ isort ((l.drop a).take (2 * s))).length = b := by rw [List.length_append, isort_len, List.length_take]; omega
              have HEN := Lib.hid (show (d ++ isort ((l.drop a).take (2 * s))) ++ chunkSort (2 * s) (l.drop b) = chunkSort (2 * s) l by rw [List.append_assoc]; exact HE.out)
              have HPN := Lib.hid (show PathsOk ((d ++ isort ((l.drop a).take (2 * s))) ++ chunkSort s (l.drop b)) by
                have := PathsOk.parts.1 HPD.out
                rw [List.append_assoc, PathsOk.parts]
                refine ⟨this.1, ?_, (PathsOk.both.1 this.2.2).2⟩
                rw [← HZ.out]
                exact (PathsOk.both.2 ⟨this.2.1, (PathsOk.both.1 this.2.2).1⟩).isort)
              have HBB := Lib.hid hb0
              clear e1 HX HY HZ la lb hlen hl1 hm0 hb0
              go_wp2_with fail
              refine HC.out.mono ?_
              rintro e w2 ⟨rfl, ho, hb⟩
              rw [← List.append_assoc] at ho
              have HO2 := Lib.hid ho
              have HB2 := Lib.hid hb
              clear ho hb
              go_wp2
              go_roundw
              case rel => exact ⟨b, _, rfl, by go_num, hlt, hdn, HEN, HPN, HO2, HB2⟩
              case measure =>
                have hb0 := HBB.out
                simp [intOf]; omega
            · have hle : ¬ (b : Int) ≤ (n : Int) := by omega
              have hsb : a + s < n ∨ n ≤ a + s := by omega
              by_cases hmn : mm < n
              · have hmni : (mm : Int) < (n : Int) := by omega
                have HX := Lib.hid (chunk_last (s := s) (l := l.drop a) (by omega) (by omega) (by omega))
                have HZ := Lib.hid (chunk_merged (s := s) (l := l.drop a) (by omega))
                rw [HX.out] at HO HPD
                have la : (isort ((l.drop a).take s)).length = s := by rw [isort_len, List.length_take]; omega
                have lb : (isort ((l.drop a).drop s)).length = n - mm := by rw [isort_len, List.length_drop]; omega
                have ho1 := HO.out
                have hp1 := HPD.out
                have e0 : d ++ (isort ((l.drop a).take s) ++ isort ((l.drop a).drop s)) = d ++ (isort ((l.drop a).take s) ++ (isort ((l.drop a).drop s) ++ [])) := by simp
                rw [e0] at ho1 hp1
                have hlen : (d ++ (isort ((l.drop a).take s) ++ (isort ((l.drop a).drop s) ++ []))).length = n := by
                  simp only [List.length_append, la, lb, List.length_nil]; omega
                have HC := Lib.hid (HSYM.out (2 * s) d (isort ((l.drop a).take s)) (isort ((l.drop a).drop s)) [] wr (by omega) ho1 hlen hp1 HB.out (isort_sorted _) (isort_sorted _) (by omega) (by omega) a mm n hda.symm (by omega) (by omega))
                rw [HZ.out, List.append_nil, HE.out] at HC
                clear HX HZ la lb hlen ho1 hp1 e0 HO HPD hl1 hm0 hb0 hsb
                go_wp2_with fail
                refine HC.out.mono ?_
                rintro e w2 ⟨rfl, ho, hb⟩
                have HO2 := Lib.hid ho
                have HB2 := Lib.hid hb
                clear ho hb HC
                go_wp2
                go_roundw
                case rel => exact ⟨2 * s, by go_num, by omega, by omega, HO2, HB2⟩
                case measure => simp [intOf]; omega
              · have hmni : ¬ (mm : Int) < (n : Int) := by omega
                have HX := Lib.hid (chunk_double (s := s) (l := l.drop a) (by omega))
                rw [HX.out, HE.out] at HO
                clear HX HE HPD hl1 hm0 hb0 hsb
                go_wp2
                go_roundw
                case rel => exact ⟨2 * s, by go_num, by omega, by omega, HO, HB⟩
                case measure => simp [intOf]; omega
        · have HF := Lib.hid (chunk_end (s := s) (l := l) (by rw [HLN.out]; omega))
          rw [HF.out] at HO3
          clear HF HO2 HB2
          go_wp2
          go_end0
          exact ⟨rfl, HO3.out, HB3.out⟩
set_option maxRecDepth 100000 in
theorem InsertNil_any (w : World) : Calls Tryd.prog 108 #[.slice none 0 0, .int .i64 0, .int .i64 0, (.func (.func 46) #[] #[])] w fun e w' => e = .returned (.tuple #[]) ∧ w' = w := by
  go_enter Tryd.func108, Tryd.ntmps108
  go_wp2_with fail
  go_loopw [8, 9] (fun v8 _ wr => v8 = .int .i64 1 ∧ wr = w) (fun _ _ _ => 0)
  case atStart => exact ⟨rfl, rfl⟩
  case round =>
    obtain ⟨rfl, rfl⟩ := hrel
    go_wp2
    go_end0
    exact ⟨rfl, rfl⟩
set_option maxRecDepth 100000 in
theorem StableNil_any (w : World) : Calls Tryd.prog 81 #[.slice none 0 0, .int .i64 0, (.func (.func 46) #[] #[])] w fun e w' => e = .returned (.tuple #[]) ∧ w' = w := by
  have HI := Lib.hid (fun w => InsertNil_any w)
  go_enter Tryd.func81, Tryd.ntmps81
  go_wp2_with fail
  go_loopw [7, 8] (fun va vb wr => va = .int .i64 0 ∧ vb = .int .i64 20 ∧ wr = w) (fun _ _ _ => 0)
  case atStart => exact ⟨rfl, rfl, rfl⟩
  case round =>
    obtain ⟨rfl, rfl, rfl⟩ := hrel
    go_wp2_with fail
    refine (HI.out _).mono ?_
    rintro e w2 ⟨rfl, rfl⟩
    go_wp2_with fail
    go_loopw [6, 7, 8, 9] (fun vs _ _ _ wx => vs = .int .i64 20 ∧ wx = w2) (fun _ _ _ _ _ => 0)
    case atStart => exact ⟨rfl, rfl⟩
    case round =>
      obtain ⟨rfl, rfl⟩ := hrel
      go_wp2
      go_end0
      exact ⟨rfl, rfl⟩
set_option maxRecDepth 100000 in
set_option maxHeartbeats 4000000 in
theorem SortStable_any (W0 : World) (v : Value) (l : List Nod) (w : World) (h : OwnNods 60 w W0.heap.size v l) (hfew : l.length ≤ 8000000000) (hp : PathsOk l) (hM : MaxOk W0) (hB : Below W0.heap.size W0 w) :
    Calls Tryd.prog 45 #[v, (.func (.func 46) #[] #[])] w fun e w' => e = .returned (.tuple #[]) ∧ OwnNods 60 w' W0.heap.size v (isort l) ∧ Below W0.heap.size W0 w' := by
  rcases h.form with ⟨rfl, rfl⟩ | ⟨g, cap, rfl, hgB, hgw, hcap, hcm⟩
  · have HN := Lib.hid (StableNil_any w)
    have H := Lib.hid h
    have HB0 := Lib.hid hB
    clear h hp hM hB hfew
    go_enter Tryd.func45, Tryd.ntmps45
    go_wp2_with fail
    refine HN.out.mono ?_
    rintro e w2 ⟨rfl, rfl⟩
    go_wp2
    go_end0
    exact ⟨rfl, H.out, HB0.out⟩
  · have HS := Lib.hid (Stable_any W0 g cap l.length l w h rfl hcap hcm hfew hp hM hB)
    unfold maxLen at hcm
    clear h hp hM hB
    go_enter Tryd.func45, Tryd.ntmps45
    go_wp2_with fail
    refine HS.out.mono ?_
    rintro e w2 ⟨rfl, ho, hb⟩
    have HO2 := Lib.hid ho
    have HB2 := Lib.hid hb
    clear ho hb
    go_wp2
    go_end0
    exact ⟨rfl, HO2.out, HB2.out⟩
end Go.Proofs.YtaffgndickdbiaaDoor
namespace Go.Creel
open Go.RowKit
theorem nods_take {w : World} {a : Option Addr} {n cap i : Nat} {l : List Nod} (h : SliceC maxLen 12 (NodC maxLen) w [.slice a n cap] l) (hi : i ≤ l.length) : SliceC maxLen 12 (NodC maxLen) w [.slice a i cap] (l.take i) := by
  obtain ⟨a', cap', hv, h1, h2, h3, h4, h5⟩ := h
  simp only [List.cons.injEq, Value.slice.injEq, and_true] at hv
  obtain ⟨rfl, rfl, rfl⟩ := hv
  have hl : (l.take i).length = i := by rw [List.length_take]; omega
  refine ⟨a, cap, by rw [hl], by omega, h2, by omega, h4, fun hp => ?_⟩
  obtain ⟨b, off, e, hc⟩ := h5 (by omega)
  refine ⟨b, off, e, fun k hk => ?_⟩
  obtain ⟨c, hcl, hcc, hE⟩ := hc k (by omega)
  exact ⟨c, hcl, hcc, by rw [List.getElem_take]; exact hE⟩
theorem nods_drop {w : World} {a : Option Addr} {n cap i : Nat} {l : List Nod} (h : SliceC maxLen 12 (NodC maxLen) w [.slice a n cap] l) (hi : i ≤ l.length) : SliceC maxLen 12 (NodC maxLen) w [sliced a i n cap 12] (l.drop i) := by
  obtain ⟨a', cap', hv, h1, h2, h3, h4, h5⟩ := h
  simp only [List.cons.injEq, Value.slice.injEq, and_true] at hv
  obtain ⟨rfl, rfl, rfl⟩ := hv
  have hl : (l.drop i).length = l.length - i := List.length_drop
  unfold sliced
  refine ⟨if cap = i then a else a.map (·.add (i * 12)), cap - i, by rw [hl], by omega, by omega, by omega, fun h => ?_, fun hp => ?_⟩
  · split at h
    · have := h4 h; omega
    · cases ha : a with
      | none => have := h4 ha; omega
      | some x => rw [ha] at h; cases h
  · obtain ⟨b, off, e, hc⟩ := h5 (by omega)
    refine ⟨b, off + i * 12, ?_, fun k hk => ?_⟩
    · rw [if_neg (by omega), e]
      simp only [Option.map_some, Addr.add]
      by_cases h0 : i * 12 = 0 <;> simp [h0]
    · obtain ⟨c, hcl, hcc, hE⟩ := hc (i + k) (by omega)
      refine ⟨c, hcl, fun j hj => ?_, by rw [List.getElem_drop]; exact hE⟩
      rw [← hcc j hj]
      congr 2
      omega
theorem src_nods {P : Program} {w : World} {v : Value} {l : List Nod} {tx e' : TypeId} (hk : P.underlying tx = some (.slice e')) (h : SliceC maxLen 12 (NodC maxLen) w [v] l) : Src P 12 tx v l.length (l.flatMap Nod.cells) w := by
  have hone : ∀ u ∈ l.flatMap Nod.cells, u.oneCell' = true := by
    intro u hu
    obtain ⟨x, _, hx⟩ := List.mem_flatMap.1 hu
    simp [Nod.cells] at hx
    rcases hx with rfl | rfl | rfl | rfl | rfl | rfl | rfl | rfl | rfl | rfl | rfl | rfl <;> rfl
  obtain ⟨a, cap, hv, h1, h2, h3, h4, h5⟩ := h
  simp only [List.cons.injEq, and_true] at hv
  subst hv
  cases a with
  | none =>
    have h0 : l.length = 0 := by have := h4 rfl; omega
    obtain rfl := List.eq_nil_of_length_eq_zero h0
    exact Src.ofNil w hk cap
  | some a =>
    refine Src.ofSlice w hk a l.length cap _ (flat_len l) (fun j u hu => ?_) hone
    have hj : j < l.length * 12 := by
      rcases Nat.lt_or_ge j (l.length * 12) with h | h
      · exact h
      · rw [List.getElem?_eq_none (by rw [flat_len]; exact h)] at hu; cases hu
    obtain ⟨b, off, e, hc⟩ := h5 (by omega)
    cases e
    have hjd : j = j / 12 * 12 + j % 12 := by omega
    have hj12 : j % 12 < 12 := Nat.mod_lt _ (by omega)
    have hji : j / 12 < l.length := by omega
    obtain ⟨c, hcl, hcc, hE⟩ := hc (j / 12) hji
    rw [hjd, flat_at l (j / 12) (j % 12) hji hj12, nk_eq hji, ← hE.1, ← hcc _ hj12] at hu
    rw [← hu]
    have e2 : ∀ q, (⟨b, off, none⟩ : Addr).add q = ⟨b, off + q, none⟩ := fun q => by unfold Addr.add; by_cases h0 : q = 0 <;> simp [h0]
    rw [e2]
    congr 2
    omega
theorem addr_zero (a : Option Addr) : a.map (·.add 0) = a := by cases a <;> simp [Addr.add]
theorem list_dat {l : List Nod} (h : ∀ x ∈ l, x.data.length ≤ 140737488355328) : ∀ i, i < l.length → (nk l i).data.length ≤ 140737488355328 := fun i hi => by rw [nk_eq hi]; exact h _ (List.getElem_mem hi)
theorem dat_list {l : List Nod} (h : ∀ i, i < l.length → (nk l i).data.length ≤ 140737488355328) : ∀ x ∈ l, x.data.length ≤ 140737488355328 := fun x hx => by
  obtain ⟨i, hi, rfl⟩ := List.mem_iff_getElem.1 hx
  rw [← nk_eq hi]; exact h i hi
end Go.Creel
namespace Go.Proofs.YtaffgndickdbiaaDoor
open Go.Creel Go.RowKit
theorem run_takeN (w : World) (a : Option Addr) (n cap i : Nat) (h : i ≤ n) (hc : n ≤ cap) : (Instr.slice 22 (.slice a n cap) none (some (.int .i64 i)) none).run Tryd.prog w = .ok (.slice a i cap) w := by
  rw [run_slice_h w 22 a n cap (by kernel_rfl) .i64 i (by omega) (by omega)]
  have hs : (sizeOf (Tryd.prog.elem 22)).run Tryd.prog w = .ok 12 w := by kernel_rfl
  rw [hs]
  simp only [Result.andThen, sliced, Int.toNat_natCast, Nat.zero_mul, addr_zero, ite_self, Nat.sub_zero]
theorem run_dropN (w : World) (a : Option Addr) (n cap i : Nat) (h : i ≤ n) (hc : n ≤ cap) : (Instr.slice 22 (.slice a n cap) (some (.int .i64 i)) none none).run Tryd.prog w = .ok (sliced a i n cap 12) w := by
  rw [run_slice_l w 22 a n cap (by kernel_rfl) .i64 i (by omega) (by omega)]
  have hs : (sizeOf (Tryd.prog.elem 22)).run Tryd.prog w = .ok 12 w := by kernel_rfl
  rw [hs]
  simp only [Result.andThen, Int.toNat_natCast]
end Go.Proofs.YtaffgndickdbiaaDoor
namespace Go.Creel
open Go.RowKit
theorem isort_dat {l : List Nod} (h : ∀ i, i < l.length → (nk l i).data.length ≤ 140737488355328) : ∀ i, i < (isort l).length → (nk (isort l) i).data.length ≤ 140737488355328 :=
  list_dat (fun x hx => dat_list h x (isort_mem.1 hx))
theorem part_in {t : TypeId} {w w' : World} {B : Nat} {v u : Value} {o m : List Nod} (hown : OwnNods t w B v o) (hb : Below w.heap.size w w') (hm : ∀ x ∈ m, x ∈ o) (hu : ∀ b, u.ownBlock = some b → w.heap.size ≤ b) : ∀ x, x ∈ m → NodIn w' u x := by
  intro x hx
  have h1 := (hown.2 x (hm x hx)).1
  refine ⟨h1.below hb, fun a hp ha he => ?_⟩
  have h2 := h1.lt a hp ha
  have h3 := hu _ he
  omega
theorem own_slice {t : TypeId} {w : World} {B n : Nat} {v : Value} {l : List Nod} (h : OwnNods t w B v l) (hn : l.length = n) : ∃ p cap, v = .slice p n cap ∧ n ≤ cap ∧ cap ≤ maxLen ∧ (0 < n → ∃ g, p = some ⟨g, 0, none⟩ ∧ B ≤ g) := by
  subst hn
  rcases h.form with ⟨rfl, rfl⟩ | ⟨g, cap, rfl, hgB, hgw, hcap, hcapm⟩
  · exact ⟨none, 0, rfl, Nat.le_refl _, by unfold maxLen; omega, fun h => absurd h (by simp)⟩
  · exact ⟨_, _, rfl, hcap, hcapm, fun _ => ⟨g, rfl, hgB⟩⟩
end Go.Creel
namespace Go.Proofs.YtaffgndickdbiaaDoor
open Go.Creel Go.RowKit
set_option maxRecDepth 100000 in
set_option maxHeartbeats 4000000 in
theorem IsortR_at (b off cap : Nat) (l : List Nod) (w : World) (hpos : 0 < l.length) (hfew : l.length ≤ 8000000000) (hle : l.length ≤ cap) (hm : cap ≤ maxLen) (hc : NodsAt w b off l) (hok : ∀ i, i < l.length → (nk l i).Ok maxLen w) (hdat : ∀ i, i < l.length → (nk l i).data.length ≤ 140737488355328) (hps : ∀ i, i < l.length → (nk l i).path.size ≤ 1048576) :
    Calls Tryd.prog 15 #[.slice (some ⟨b, off, none⟩) l.length cap] w (RetT 60 w (isort l)) := by
  obtain ⟨i0, hi, hz0, hz1, hz2⟩ := info_parts info_node
  have HI := Lib.hid (And.intro hi (And.intro hz0 (And.intro hz1 hz2)))
  have HC := Lib.hid hc
  have HK := Lib.hid hok
  have HD := Lib.hid hdat
  have HPS := Lib.hid (fun (x : Nod) (hx : x ∈ l) => show x.path.size ≤ 1048576 from by
    obtain ⟨i, hi, e⟩ := List.mem_iff_getElem.1 hx
    rw [← e, ← nk_eq hi]; exact hps i hi)
  have hlen := isort_len l
  unfold maxLen at hm
  clear hc hok hdat hps hi hz0 hz1 hz2
  go_enter Tryd.func15, Tryd.ntmps15
  go_wp2
  go_loopw [3, 5, 6, 7, 10] (fun v _ _ _ i wr => ∃ (k : Nat) (vv : Value) (o : List Nod), k ≤ l.length ∧ i = .int .i64 k ∧ vv = v ∧ Hid (o = isort (l.take k)) ∧ Hid (OwnNods 60 wr w.heap.size vv o) ∧ Hid (Below w.heap.size w wr)) (fun _ _ _ _ i _ => l.length - (intOf i).toNat)
  case atStart => exact ⟨0, _, [], by omega, rfl, rfl, Lib.hid rfl, Lib.hid (OwnNods.nil _ _ _), Lib.hid (Below.refl _ _)⟩
  case round =>
    obtain ⟨k, vv, o, hk, rfl, rfl, HE, HOW, HB⟩ := hrel
    by_cases hlt : k < l.length
    · obtain ⟨h0, h1, h2, h3, h4, h5, h6, h7, h8, h9, h10, h11⟩ := (HC.out.below HB.out) k hlt
      have hol : o.length = k := by rw [HE.out, isort_len, List.length_take]; omega
      have HSO := Lib.hid (show o.Pairwise PathLe by rw [HE.out]; exact isort_sorted _)
      have HNX := Lib.hid (show isort (l.take (k + 1)) = insN o (nk l k) by rw [HE.out]; exact isort_take hlt)
      have HPO := Lib.hid (fun j (hj : j < k) => show (nk o j).path.size ≤ 1048576 from by
        have hm : nk o j ∈ isort (l.take k) := by rw [← HE.out]; exact nk_mem (by omega)
        exact HPS.out _ (List.mem_of_mem_take (isort_mem.1 hm)))
      have HPX := Lib.hid (HPS.out _ (nk_mem hlt))
      have HKX := Lib.hid (HK.out k hlt)
      obtain ⟨p, cap', rfl, hcl, hcm, hp⟩ := own_slice HOW.out hol
      have HP := Lib.hid hp
      clear hp
      unfold maxLen at hcm
      generalize nk l k = x at *
      have HBX := Lib.hid ((Below.refl wr.heap.size wr).alloc (Nat.le_refl _) (boxOf x))
      have HXZ := Lib.hid (nodAt_box wr x 60)
      obtain ⟨wo, rfl⟩ : ∃ wo : World, wo = wr := ⟨_, rfl⟩
      go_wp2
      go_loopw [6] (fun v6 wi => ∃ j : Nat, j ≤ k ∧ v6 = .int .i64 j ∧ Hid (∀ q, j ≤ q → q < o.length → 0 < ordN (nk o q) x) ∧ Hid (Below wo.heap.size wo wi) ∧ Hid (NodAt wi wo.heap.size 0 x)) (fun v6 _ => (intOf v6).toNat)
      case atStart => exact ⟨k, Nat.le_refl _, rfl, Lib.hid (fun q h1 h2 => absurd h1 (by omega)), HBX, HXZ⟩
      case round =>
        obtain ⟨j, hj, rfl, HGT, HBI, HZI⟩ := hrel
        obtain ⟨c0, c1, c2, c3, c4, c5, c6, c7, c8, c9, c10, c11⟩ := HZI.out.zero
        obtain ⟨w2, rfl⟩ : ∃ w2 : World, w2 = wr := ⟨_, rfl⟩
        go_upto_region 6 with fail
        go_cut [6, 29] from 16 to 29 (fun c6 u wc => c6 = .int .i64 j ∧ u = .bool (decide (0 < j ∧ 0 < ordN (nk o (j - 1)) x)) ∧ Hid (Below w2.heap.size w2 wc))
        case first =>
          by_cases hj0 : j = 0
          · subst hj0
            go_wp2
            go_quiet (fail)
            go_wp2_with fail
            go_meet
            case rel => exact ⟨rfl, by simp, Lib.hid (below_draws _ _ _)⟩
          · obtain ⟨q, rfl⟩ : ∃ q, j = q + 1 := ⟨j - 1, by omega⟩
            obtain ⟨g, rfl, hgB⟩ := HP.out (by omega)
            have HO2 := Lib.hid (HOW.out.below HBI.out)
            obtain ⟨q0, _⟩ := (show NodAt w2 g (q * 12) (nk o q) from (by have e := HO2.out; rw [← hol] at e; exact e.nodAt (by omega)))
            have hwq : IntKind.i64.wrap (q : Int) = (q : Int) := by rw [IntKind.wrap_i64]; omega
            have hql : (q : Int) < (k : Int) := by omega
            have hPq := HPO.out q (by omega)
            generalize hy : nk o q = y at *
            go_wp2
            go_still_tail 11, (by kernel_rfl)
            go_wp2_with fail
            refine (PathOrder_any _ _ _ hPq HPX.out).mono ?_
            rintro e wc ⟨rfl, hb⟩
            have HBC := Lib.hid ((Below.refl w2.heap.size w2).drew.trans hb)
            clear hb
            go_wp2_with fail
            go_meet
            case rel => exact ⟨by go_num, by rw [Nat.add_sub_cancel, hy]; simp [ordN], HBC⟩
        case rest =>
          obtain ⟨rfl, rfl, HBC⟩ := hcut
          have HBW := Lib.hid (HBI.out.trans (HBC.out.mono HBI.out.size))
          have HZW := Lib.hid (HZI.out.below HBC.out)
          by_cases hcb : 0 < j ∧ 0 < ordN (nk o (j - 1)) x
          · obtain ⟨q, rfl⟩ : ∃ q, j = q + 1 := ⟨j - 1, by omega⟩
            have HG2 := Lib.hid (show ∀ p, q ≤ p → p < o.length → 0 < ordN (nk o p) x from fun p h1 h2 => by
              by_cases e : p = q
              · rw [e]; exact hcb.2
              · exact HGT.out p (by omega) h2)
            rw [decide_eq_true hcb]
            clear hcb
            go_wp2
            go_roundw
            case rel => exact ⟨q, by omega, by go_num, HG2, HBW, HZW⟩
            case measure => simp [intOf]
          · have HIN := Lib.hid (ins_at (n := x) HSO.out (by omega : j ≤ o.length) HGT.out (fun h0 => Int.not_lt.1 fun h => hcb ⟨h0, h⟩))
            rw [decide_eq_false hcb]
            clear hcb
            have HR := Lib.hid (HB.out.trans (HBW.out.mono HB.out.size))
            have HOC := Lib.hid (HOW.out.below HBW.out)
            have hst := fun w => run_takeN w p k cap' j hj hcl
            have hdr := fun w => run_dropN w p k cap' j hj hcl
            have HSC := Lib.hid (by have e := HOC.out; rw [← hol] at e; exact e.slice (by unfold maxLen; omega))
            have HTK := Lib.hid (nods_take HSC.out (i := j) (by omega))
            have HDK := Lib.hid (nods_drop HSC.out (i := j) (by omega))
            rw [hol] at HDK
            have hlt1 : (o.take j).length = j := by rw [List.length_take]; omega
            have hld1 : (o.drop j).length = k - j := by rw [List.length_drop]; omega
            generalize sliced p j k cap' 12 = u at *
            have HA1 := Lib.hid ((Below.refl wc.heap.size wc).alloc (Nat.le_refl _) (.cells #[] 60))
            have HE1 := Lib.hid (show OwnNods 60 (wc.alloc (.cells #[] 60)) wc.heap.size (.slice (some ⟨wc.heap.size, 0, none⟩) 0 0) [] from ⟨World.ownsRow_made wc #[] 0 (Nat.le_refl _) (by unfold maxLen; omega) rfl, fun x hx => absurd hx (by simp)⟩)
            have HT1 := Lib.hid (nods_below HTK.out HA1.out)
            go_upto_region 9 with (at_builtin; refine wpList_app _ rfl (.tmp 32) (.tmp 35) 22 22 rfl _ _ rfl rfl (fun ty => app_src _ 22 22 ty wc.heap.size 60 i0 _ 12 144 Tryd.underlying22 HI.out.1 HI.out.2.1 HI.out.2.2.1 HI.out.2.2.2 rfl (by decide) _ _ ([] : List Nod).length (o.take j).length _ _ HE1.out.1 (src_nods Tryd.underlying22 HT1.out) (by simp only [hlt1, hld1, List.length_nil, List.length_append, List.length_cons]; unfold maxLen; omega) (by simp only [hlt1, hld1, List.length_nil, List.length_append, List.length_cons]; omega) HA1.out.size) ?_; intro v1 w1 ho hg hv; have HZ1 := Lib.hid (And.intro ho (And.intro hg hv.2)); clear ho hg hv)
            have HO1 := Lib.hid (show OwnNods 60 w1 wc.heap.size v1 (o.take j) from HE1.out.app (m := o.take j) (part_in HOC.out HA1.out (fun y hy => List.mem_of_mem_take hy) (fun b h => by simp [Value.ownBlock] at h; omega)) HZ1.out.1 HZ1.out.2.1 HZ1.out.2.2)
            have HB1 := Lib.hid (below_app HA1.out HZ1.out.2.1 HE1.out.1 HA1.out.size)
            have HZW1 := Lib.hid (HZW.out.below HB1.out)
            obtain ⟨m0, m1, m2, m3, m4, m5, m6, m7, m8, m9, m10, m11⟩ := HZW1.out.zero
            have HA2 := Lib.hid (HB1.out.alloc HB1.out.size (boxOf x))
            have HO1b := Lib.hid (HO1.out.below ((Below.refl w1.heap.size w1).alloc (Nat.le_refl _) (boxOf x)))
            have HN2 := Lib.hid (nodIn_arg HKX.out (HR.out.trans (HA2.out.mono HR.out.size)) (HO1.out.mono HR.out.size))
            go_upto_region 10 with (at_builtin; refine wpList_app _ rfl (.tmp 37) (.tmp 39) 22 22 rfl _ _ rfl rfl (fun ty => app_src _ 22 22 ty wc.heap.size 60 i0 _ 12 144 Tryd.underlying22 HI.out.1 HI.out.2.1 HI.out.2.2.1 HI.out.2.2.2 rfl (by decide) _ _ (o.take j).length 1 _ _ HO1b.out.1 (src_nod w1 _ _ _ Tryd.underlying22 x) (by simp only [hlt1, hld1, List.length_nil, List.length_append, List.length_cons]; unfold maxLen; omega) (by simp only [hlt1, hld1, List.length_nil, List.length_append, List.length_cons]; omega) HA2.out.size) ?_; intro v2 w3 ho hg hv; have HZ2 := Lib.hid (And.intro ho (And.intro hg hv.2)); clear ho hg hv)
            have HO2 := Lib.hid (HO1b.out.app (m := [x]) (fun y hy => by rw [List.mem_singleton.1 hy]; exact HN2.out) HZ2.out.1 HZ2.out.2.1 HZ2.out.2.2)
            have HB2 := Lib.hid (below_app HA2.out HZ2.out.2.1 HO1b.out.1 HA2.out.size)
            have HD2 := Lib.hid (nods_below HDK.out HB2.out)
            clear m0 m1 m2 m3 m4 m5 m6 m7 m8 m9 m10 m11
            go_wp2_with (at_builtin; refine wpList_app _ rfl (.tmp 41) (.tmp 44) 22 22 rfl _ _ rfl rfl (fun ty => app_src _ 22 22 ty wc.heap.size 60 i0 _ 12 144 Tryd.underlying22 HI.out.1 HI.out.2.1 HI.out.2.2.1 HI.out.2.2.2 rfl (by decide) _ _ (o.take j ++ [x]).length (o.drop j).length _ _ HO2.out.1 (src_nods Tryd.underlying22 HD2.out) (by simp only [hlt1, hld1, List.length_nil, List.length_append, List.length_cons]; unfold maxLen; omega) (by simp only [hlt1, hld1, List.length_nil, List.length_append, List.length_cons]; omega) HB2.out.size) ?_; intro v4 w4 ho hg hv; have HZ3 := Lib.hid (And.intro ho (And.intro hg hv.2)); clear ho hg hv)
            have HO3 := Lib.hid (HO2.out.app (m := o.drop j) (part_in HOC.out HB2.out (fun y hy => List.mem_of_mem_drop hy) (fun b h => (World.ownsRow.lt HO2.out.1 b h).1)) HZ3.out.1 HZ3.out.2.1 HZ3.out.2.2)
            have HB3 := Lib.hid (HR.out.trans ((below_app HB2.out HZ3.out.2.1 HO2.out.1 HB2.out.size).mono HR.out.size))
            have HO4 := Lib.hid (show OwnNods 60 w4 w.heap.size v4 (insN o x) from by
              rw [HIN.out]
              have e := HO3.out.mono HR.out.size
              rw [List.append_assoc] at e
              exact e)
            go_roundw
            case rel => exact ⟨k + 1, _, _, by omega, by go_num, rfl, Lib.hid HNX.out.symm, HO4, HB3⟩
            case measure => simp [intOf]; omega
    · obtain rfl : k = l.length := by omega
      rw [List.take_length] at HE
      have HDO := Lib.hid (show ∀ i, i < o.length → (nk o i).data.length ≤ 140737488355328 from by rw [HE.out]; exact isort_dat HD.out)
      have hol : o.length = l.length := by rw [HE.out]; exact hlen
      go_wp2_with fail
      refine (CopyR_any _ o _ (HOW.out.slice (by unfold maxLen; omega)) (by omega) HDO.out).mono ?_
      rintro e w5 ⟨v5, c, rfl, ho, hcb, hb⟩
      have HO5 := Lib.hid (ho.mono HB.out.size)
      have HB5 := Lib.hid (HB.out.trans (hb.mono HB.out.size))
      have HC5 := Lib.hid hcb
      clear ho hb hcb
      go_wp2
      go_ret
      rw [← HE.out]
      exact ⟨_, c, rfl, HO5.out, HC5.out, HB5.out⟩
set_option maxRecDepth 100000 in
theorem IsortR_nil (a : Option Addr) (cap : Nat) (w : World) : Calls Tryd.prog 15 #[.slice a 0 cap] w (RetT 60 w []) := by
  go_enter Tryd.func15, Tryd.ntmps15
  go_wp2
  go_loop [3, 5, 6, 7, 10] (fun v _ _ _ i => i = .int .i64 0 ∧ v = .slice none 0 0) (fun _ _ _ _ _ => 0)
  case atStart => exact ⟨rfl, rfl⟩
  case round =>
    obtain ⟨rfl, rfl⟩ := hrel
    go_wp2_with fail
    refine (CopyR_nil none 0 _).mono ?_
    rintro e w5 ⟨v5, c, rfl, ho, hcb, hb⟩
    have HO5 := Lib.hid ho
    have HB5 := Lib.hid hb
    have HC5 := Lib.hid hcb
    clear ho hb hcb
    go_wp2
    go_ret
    exact ⟨_, c, rfl, HO5.out, HC5.out, HB5.out⟩
theorem IsortR_any (v : Value) (l : List Nod) (w : World) (h : SliceC maxLen 12 (NodC maxLen) w [v] l) (hfew : l.length ≤ 8000000000) (hdat : ∀ i, i < l.length → (nk l i).data.length ≤ 140737488355328) (hps : ∀ i, i < l.length → (nk l i).path.size ≤ 1048576) :
    Calls Tryd.prog 15 #[v] w (RetT 60 w (isort l)) := by
  rcases nods_cases h with ⟨a, cap, rfl, rfl, _⟩ | ⟨b, off, cap, rfl, h1, h2, h3, h6, h4, h5⟩
  · exact IsortR_nil a cap w
  · exact IsortR_at b off cap l w h1 hfew h2 h3 h4 h5 hdat hps
open Go.Creel Go.RowKit
theorem maxOk_of (w : World) (h : w.ShapedOpen Tryd.prog) : MaxOk w := by
  have hc : ∃ m, w.cell? ⟨0, 0, none⟩ = some (.int .i64 m) :=
    Go.Proofs.cell_of_shapedOpen_int (zero := #[.int .i64 0]) (t := 3) h (of_decide_eq_true (by kernel_rfl)) (by kernel_rfl) rfl (by kernel_rfl) (by kernel_rfl) Tryd.underlying3
  refine ⟨?_, hc⟩
  obtain ⟨m, hm⟩ := hc
  rcases Nat.lt_or_ge 0 w.heap.size with h0 | h0
  · exact h0
  · unfold World.cell? at hm
    rw [Array.getElem?_eq_none (by simpa using h0)] at hm
    simp at hm
end Go.Proofs.YtaffgndickdbiaaDoor
namespace Go.Creel
def dcells : Nat → DataW Unit → List Value
  | 0, _ => []
  | _ + 1, .lit (.int k n) => [.int k n]
  | m + 1, .agg ps => ps.flatMap (dcells m)
  | _ + 1, _ => []
def layAll (w : World) (l : List (Nat × DataW Unit)) : World :=
  { w with heap := l.foldl (fun h x => h.modify x.1 fun
    | .cells _ t fr => .cells (dcells 4 x.2).toArray t fr
    | o => o) w.heap }
end Go.Creel
namespace Go.Proofs.YtaffgndickdbiaaDoor
open Go.Creel
def bulkS (H : Type) (d : DataW H) : Prop := Rows.uptoBulk d ≤ 1048576
theorem bulk_one {H : Type} (d : DataW H) : 1 ≤ Rows.uptoBulk d := by
  cases d with
  | lit l => cases l <;> simp [Rows.uptoBulk]
  | nil => simp [Rows.uptoBulk]
  | ptr d => simp [Rows.uptoBulk]
  | slice elems spare => simp [Rows.uptoBulk]
  | agg parts => simp [Rows.uptoBulk]
  | iface t d => simp [Rows.uptoBulk]
  | map entries => simp [Rows.uptoBulk]
  | held h => simp [Rows.uptoBulk]
theorem bulk_part {H : Type} {d : DataW H} {l : List (DataW H)} (h : d ∈ l) : Rows.uptoBulk d ≤ Rows.uptoBulkAll l := by
  induction l with
  | nil => cases h
  | cons x r ih =>
    simp only [Rows.uptoBulkAll]
    cases List.mem_cons.1 h with
    | inl e => subst e; omega
    | inr e => have := ih e; omega
theorem bulk_length {H : Type} (l : List (DataW H)) : l.length ≤ Rows.uptoBulkAll l := by
  induction l with
  | nil => simp [Rows.uptoBulkAll]
  | cons x r ih => have := bulk_one x; simp only [Rows.uptoBulkAll, List.length_cons]; omega
theorem bulk_bd (H : Type) : Bd H (bulkS H) 1048576 where
  str l h _ := by
    simp only [bulkS, Rows.uptoBulk] at h
    omega
  slc el sp h _ := by
    simp only [bulkS, Rows.uptoBulk] at h
    have := bulk_length el
    exact ⟨by omega, fun d hd => by have := bulk_part hd; unfold bulkS; omega⟩
  agg ps h d hd := by
    simp only [bulkS, Rows.uptoBulk] at h
    have := bulk_part hd
    unfold bulkS; omega
theorem bulk_mem {H : Type} {ds : List (DataW H)} {d : DataW H} (hk : Rows.uptoSmall H ds = true) (h : d ∈ ds) : bulkS H d := by
  have h1 : Rows.uptoBulkAll ds ≤ 1048576 := of_decide_eq_true hk
  have := bulk_part h
  unfold bulkS; omega
end Go.Proofs.YtaffgndickdbiaaDoor
