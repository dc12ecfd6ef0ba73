/-
  Texts: RecMath, Itoa, RecW, CutBy, RecOf, RecT, RecBox, RecRd.
-/
import Derived.Lib.ItoaNum
import Derived.Test.YtjmifcddkjcopaaDoorR01
import Derived.Lib.LaidTab
import Derived.Lib.Atoi
import Derived.Lib.SlTrimSet
import Derived.Deep.RegionHeld3
import Derived.Deep.CutRange
import Derived.Laws.ResultCell
import Derived.Shelf.Strings.SlTrimAscii
import Derived.Lib.AtoiErrMem
set_option linter.unusedVariables false
set_option linter.unusedSimpArgs false
set_option linter.unusedSectionVars false
namespace Go.Creel
def recN (L : Nat) : Nat := if L + 1 < 10 then L + 1 else if L + 2 < 100 then L + 2 else L + 3
theorem dlen_eq (n : Nat) : (Lib.decDigits n).length = Lib.nDigits n := by
  rw [Lib.decDigits_eq]; simp
theorem dlen1 {n : Nat} (h : n < 10) : (Lib.decDigits n).length = 1 := by rw [dlen_eq]; exact Lib.nDigits_small h
theorem dlen2 {n : Nat} (h : 10 ≤ n) (h2 : n < 100) : (Lib.decDigits n).length = 2 := by rw [dlen_eq]; exact Lib.nDigits_unique 1 n h h2
theorem dlen3 {n : Nat} (h : 100 ≤ n) (h2 : n < 1000) : (Lib.decDigits n).length = 3 := by rw [dlen_eq]; exact Lib.nDigits_unique 2 n h h2
theorem dlen_cases {n : Nat} (h : n < 1000) : ((Lib.decDigits n).length = 1 ∧ n < 10) ∨ ((Lib.decDigits n).length = 2 ∧ 10 ≤ n ∧ n < 100) ∨ ((Lib.decDigits n).length = 3 ∧ 100 ≤ n) := by
  by_cases h1 : n < 10
  · exact .inl ⟨dlen1 h1, h1⟩
  · by_cases h2 : n < 100
    · exact .inr (.inl ⟨dlen2 (by omega) h2, by omega, h2⟩)
    · exact .inr (.inr ⟨dlen3 (by omega) h, by omega⟩)
theorem recN_cases (L : Nat) : (L + 1 < 10 ∧ recN L = L + 1) ∨ (9 ≤ L ∧ L + 2 < 100 ∧ recN L = L + 2) ∨ (98 ≤ L ∧ recN L = L + 3) := by
  unfold recN
  by_cases h : L + 1 < 10
  · exact .inl ⟨h, if_pos h⟩
  · rw [if_neg h]
    by_cases h2 : L + 2 < 100
    · exact .inr (.inl ⟨by omega, h2, if_pos h2⟩)
    · exact .inr (.inr ⟨by omega, if_neg h2⟩)
theorem recN_bd (L : Nat) : L + 1 ≤ recN L ∧ recN L ≤ L + 3 := by have := recN_cases L; omega
theorem recN_fits {L : Nat} (h : L ≤ 900) : recN L = L + (Lib.decDigits (recN L)).length := by
  have hb := recN_cases L
  rcases dlen_cases (show recN L < 1000 by omega) with ⟨e, h1⟩ | ⟨e, h1, h2⟩ | ⟨e, h1⟩ <;> rw [e] <;> omega
theorem recN_first {L n : Nat} (h : L ≤ 900) (hn : n < recN L) : n ≠ L + (Lib.decDigits n).length := by
  have hb := recN_cases L
  rcases dlen_cases (show n < 1000 by omega) with ⟨e, h1⟩ | ⟨e, h1, h2⟩ | ⟨e, h1⟩ <;> rw [e] <;> omega
theorem itoa_nat (n : Nat) : Lib.itoa (n : Int) = Lib.decDigits n := by unfold Lib.itoa; rw [if_neg (by omega), Int.toNat_natCast]
open Go.RowKit
theorem tabIs_laid {P : Program} {W : World} {name : String} {k : IntKind} {zs : List Int} {g : Nat} {t e : TypeId} {n : Nat}
    (hg : P.globalNamed name = some g) (hty : (P.globals[g]?).map (·.type) = some t) (ht : P.underlying t = some (.array n e)) (he : P.underlying e = some (.int k)) (hce : P.cellsOf e = 1) (hct : P.cellsOf t = n) :
    ∀ (laid : List (String × DataW Unit)) (ps : List MemPlace) (i : Nat), DataW.LaidVars P W laid ps → laid[i]? = some (name, Lib.tabData k zs) → Lib.TabIs P W name k zs
  | [], _, i, _, hi => by simp at hi
  | (n', d) :: r, ps, 0, h, hi => by
    obtain ⟨g', t', cs, fuel, p, q, hg', ht', hvar, hd, _, _⟩ := h
    simp only [List.getElem?_cons_zero, Option.some.injEq, Prod.mk.injEq] at hi
    obtain ⟨rfl, rfl⟩ := hi
    obtain rfl := Option.some.inj (hg.symm.trans hg')
    obtain rfl := Option.some.inj (hty.symm.trans ht')
    unfold Lib.TabIs
    rw [hvar, ← Lib.cells_of_tab ht he hce hct hd]
  | (n', d) :: r, ps, i + 1, h, hi => by
    obtain ⟨g', t', cs, fuel, p, q, hg', ht', hvar, hd, hr, _⟩ := h
    exact tabIs_laid hg hty ht he hce hct r q i hr (by simpa using hi)
theorem tabIs_below {P : Program} {n : String} {g : Nat} {k : IntKind} {zs : List Int} {w w' : World} (hg : P.globalNamed n = some g) (h : Lib.TabIs P w n k zs) (hb : Below w.heap.size w w') : Lib.TabIs P w' n k zs := by
  unfold Lib.TabIs World.var? at h ⊢
  rw [hg] at h ⊢
  simp only [Option.bind_some] at h ⊢
  have hlt : g < w.heap.size := by
    rcases Nat.lt_or_ge g w.heap.size with h' | h'
    · exact h'
    · rw [Array.getElem?_eq_none h'] at h; cases h
  rw [hb.block g hlt]
  exact h
theorem below_more (w : World) (k : Nat) (os : Array Obj) : Below w.heap.size w (Go.Sort.grow (w.drewN k) os) :=
  ⟨rfl, rfl, rfl, by simp [Go.Sort.grow], fun b hb => by simp [Go.Sort.grow, Array.getElem?_append_left hb]⟩
end Go.Creel
namespace Go.Proofs.YtjmifcddkjcopaaDoor
open Go.Creel Go.RowKit
def Pow10 (w : World) : Prop := Lib.TabIs Tryd.prog w "internal/strconv.uint64pow10" .u64 Lib.pow10Tab
theorem Pow10.below {w w' : World} (h : Pow10 w) (hb : Below w.heap.size w w') : Pow10 w' := tabIs_below (g := 5) (by kernel_rfl) h hb
theorem Itoa_any (n : Int) (w : World) (hn : i64 n) (hT : Pow10 w) :
    Calls Tryd.prog 33 #[.int .i64 n] w fun e w' => e = .returned (.string (ofL (Lib.itoa n))) ∧ Below w.heap.size w w' :=
  (Tryd.strconv_Itoa n hn.1 hn.2 w hT).mono fun e w' ⟨he, k, os, hw⟩ => ⟨he, by rw [hw]; exact below_more w k os⟩
end Go.Proofs.YtjmifcddkjcopaaDoor
namespace Go.Creel
def recTail (r : Rec) : ByteArray := (((ByteArray.mk #[32] ++ r.key) ++ ⟨#[61]⟩) ++ r.value) ++ ⟨#[10]⟩
def recText (r : Rec) : ByteArray := ofL (Lib.decDigits (recN (recTail r).size)) ++ recTail r
def recWrite (r : Rec) : ByteArray × Int := if recFault r = 0 then (recText r, 0) else (ByteArray.empty, recFault r)
theorem recWrite_bad {r : Rec} (h : recFault r ≠ 0) : recWrite r = (ByteArray.empty, recFault r) := by unfold recWrite; rw [if_neg h]
theorem recWrite_ok {r : Rec} (h : recFault r = 0) : recWrite r = (recText r, 0) := by unfold recWrite; rw [if_pos h]
theorem recTail_size (r : Rec) : (recTail r).size = r.key.size + r.value.size + 3 := by
  unfold recTail
  simp only [ByteArray.size_append]
  show 1 + r.key.size + 1 + r.value.size + 1 = _
  omega
theorem recFault_small {r : Rec} : recFault r = 0 ∨ recFault r = 1 ∨ recFault r = 3 := by
  unfold recFault
  by_cases h : r.key.size < 1 ∨ 60 < r.key.size ∨ 500 < r.value.size
  · rw [if_pos h]; exact .inr (.inl rfl)
  · rw [if_neg h]; split <;> simp
end Go.Creel
namespace Go.Proofs.YtjmifcddkjcopaaDoor
open Go.Creel Go.RowKit
theorem ItoaN_any (n : Nat) (w : World) (hn : n ≤ 1000000) (hT : Pow10 w) :
    Calls Tryd.prog 33 #[.int .i64 n] w fun e w' => e = .returned (.string (ofL (Lib.decDigits n))) ∧ Below w.heap.size w w' := by
  have := Itoa_any n w (by constructor <;> omega) hT
  rw [itoa_nat] at this
  exact this
set_option maxRecDepth 100000 in
set_option maxHeartbeats 1000000 in
theorem RecW_any (r : Rec) (w : World) (hk : r.key.size ≤ maxLen) (hv : r.value.size ≤ maxLen) (hT : Pow10 w) :
    Calls Tryd.prog 15 #[.agg r.cells] w fun e w' => e = .returned (.tuple #[.string (recWrite r).1, .int .i64 (recWrite r).2]) ∧ Below w.heap.size w w' := by
  have HC := Lib.hid (fun W => RecL_any r W hk hv)
  have HT := Lib.hid hT
  clear hT
  have hs := recFault_small (r := r)
  by_cases h0 : recFault r = 0
  · obtain ⟨_, hk1, hv1, _, _⟩ := recFault_ok h0
    have HF := Lib.hid (recWrite_ok h0)
    have hts := recTail_size r
    rw [h0] at HC
    clear h0 hs hk hv
    obtain ⟨key, value⟩ := r
    have HTX := Lib.hid (show recText ⟨key, value⟩ = ofL (Lib.decDigits (recN (recTail ⟨key, value⟩).size)) ++ recTail ⟨key, value⟩ from rfl)
    have htt : (((ByteArray.mk #[32] ++ key) ++ ⟨#[61]⟩) ++ value) ++ ⟨#[10]⟩ = recTail ⟨key, value⟩ := rfl
    show Calls Tryd.prog 15 #[.agg #[.string key, .string value]] w _
    simp only [Rec.cells] at HC hts hk1 hv1
    go_enter Tryd.func15, Tryd.ntmps15
    go_wp2_with fail
    refine (HC.out _).mono ?_
    rintro e w1 ⟨rfl, hb⟩
    have HB := Lib.hid (((Below.refl _ _).alloc (Nat.le_refl _) _).trans (hb.mono (by simp)))
    obtain ⟨hc, _⟩ := bcell hb
    clear hb
    go_wp2
    generalize recTail ⟨key, value⟩ = t at *
    have HFI := Lib.hid (recN_fits (L := t.size) (by omega))
    have HFS := Lib.hid (fun n => recN_first (L := t.size) (n := n) (by omega))
    have HBD := Lib.hid (recN_bd t.size)
    go_loopw [6] (fun v wr => ∃ n : Nat, v = .int .i64 n ∧ t.size + 1 ≤ n ∧ n ≤ recN t.size ∧ Hid (Below w.heap.size w wr)) (fun v _ => 1000 - (intOf v).toNat)
    case atStart => exact ⟨t.size + 1, by simp [hts], by omega, by have := HBD.out; omega, HB⟩
    case round =>
      obtain ⟨n, rfl, hn1, hn2, HBR⟩ := hrel
      have hbd := HBD.out
      have HI := Lib.hid (ItoaN_any n wr (by omega) (HT.out.below HBR.out))
      have hsz := ofL_size (Lib.decDigits n)
      have hdl : (Lib.decDigits n).length ≤ 3 := by have := dlen_cases (n := n) (by omega); omega
      have hts2 : t.size = key.size + value.size + 3 := hts
      by_cases hd : n = t.size + (Lib.decDigits n).length
      · have hn : n = recN t.size := by
          rcases Nat.lt_or_ge n (recN t.size) with h | h
          · exact absurd hd (HFS.out n h)
          · omega
        have HR := Lib.hid (show recWrite ⟨key, value⟩ = (ofL (Lib.decDigits n) ++ t, 0) by rw [HF.out, HTX.out, hn])
        have HI2 := Lib.hid (fun (m : Int) W (hm : m = n) hW => by have := ItoaN_any n W (by omega) hW; rw [← hm] at this; exact this)
        generalize ofL (Lib.decDigits n) = x at *
        generalize (Lib.decDigits n).length = d at *
        clear hn HFI HFS HTX HF htt
        go_wp2_with fail
        refine (HI2.out _ _ (by omega) (HT.out.below HBR.out)).mono ?_
        rintro e w3 ⟨rfl, hb⟩
        have HB3 := Lib.hid (HBR.out.trans (hb.mono HBR.out.size))
        clear hb
        go_wp2_with fail
        refine (HI2.out _ _ (by omega) (HT.out.below HB3.out)).mono ?_
        rintro e w4 ⟨rfl, hb⟩
        have HB4 := Lib.hid (HB3.out.trans (hb.mono HB3.out.size))
        clear hb
        go_wp2
        go_ret2
        exact ⟨ret_si HR.out, HB4.out⟩
      · have hn : n < recN t.size := by
          have hne : n ≠ recN t.size := by intro e; exact hd (by rw [e]; exact HFI.out)
          omega
        generalize ofL (Lib.decDigits n) = x at *
        generalize (Lib.decDigits n).length = d at *
        have hd2 : ¬ n = key.size + value.size + 3 + d := by omega
        clear HFI HFS HTX HF htt
        go_wp2_with fail
        refine HI.out.mono ?_
        rintro e w3 ⟨rfl, hb⟩
        have HB3 := Lib.hid (HBR.out.trans (hb.mono HBR.out.size))
        clear hb
        go_wp2
        go_roundw
        · exact ⟨n + 1, by simp, by omega, by omega, HB3⟩
        · simp only [intOf]; omega
  · have HF := Lib.hid (recWrite_bad h0)
    clear hk hv
    generalize recFault r = f at *
    obtain ⟨key, value⟩ := r
    show Calls Tryd.prog 15 #[.agg #[.string key, .string value]] w _
    simp only [Rec.cells] at HC
    go_enter Tryd.func15, Tryd.ntmps15
    go_wp2_with fail
    refine (HC.out _).mono ?_
    rintro e w1 ⟨rfl, hb⟩
    have HB := Lib.hid (((Below.refl _ _).alloc (Nat.le_refl _) _).trans (hb.mono (by simp)))
    clear hb
    go_wp2
    go_ret2
    exact ⟨ret_si HF.out, HB.out⟩
end Go.Proofs.YtjmifcddkjcopaaDoor
namespace Go.Creel
open Go.RowKit
def AtByte (s : ByteArray) (c : Nat) (a b i : Nat) : Prop := a ≤ i ∧ i < b ∧ byt s i = c ∧ ∀ j, a ≤ j → j < i → byt s j ≠ c
theorem AtByte.one {s : ByteArray} {c a b i j : Nat} (h : AtByte s c a b i) (k : AtByte s c a b j) : i = j := by
  obtain ⟨h1, h2, h3, h4⟩ := h
  obtain ⟨k1, k2, k3, k4⟩ := k
  rcases Nat.lt_trichotomy i j with e | e | e
  · exact absurd h3 (k4 i h1 e)
  · exact e
  · exact absurd k3 (h4 j k1 e)
end Go.Creel
namespace Go.Proofs.YtjmifcddkjcopaaDoor
open Go.Creel Go.RowKit
theorem IndexOne_any (s : ByteArray) (c : UInt8) (w : World) :
    Calls Tryd.prog 35 #[.string s, .string ⟨#[c]⟩] w fun e w' => e = .returned (.int .i64 (firstIdx s c)) ∧ w = w' := by
  refine (Tryd.stringslite_Index_one s c w).mono ?_
  rintro e w' ⟨rfl, rfl⟩
  rw [Lib.firstIdx_eq]
  exact ⟨rfl, rfl⟩
set_option maxRecDepth 100000 in
theorem CutYes_any (s : ByteArray) (c : UInt8) (i : Nat) (w : World) (hs : s.size ≤ maxLen) (hi : firstIdx s c = i) (hl : i < s.size) :
    Calls Tryd.prog 11 #[.string s, .string ⟨#[c]⟩] w fun e w' => e = .returned (.tuple #[.string (s.extract 0 i), .string (s.extract (i + 1) s.size), .bool true]) ∧ ∃ n, w' = w.drewN n := by
  have hI := IndexOne_any s c w
  unfold maxLen at hs
  rw [hi] at hI
  have HI := Lib.hid hI
  clear hI hi
  have hsl : s.size ≤ 9223372036854775807 := by omega
  have H : Calls Tryd.prog 21 #[.string s, .string ⟨#[c]⟩] w fun e w' => e = .returned (.tuple #[.string (s.extract 0 i), .string (s.extract (i + 1) s.size), .bool true]) ∧ ∃ n, w' = w.drewN n := by
    go_enter Tryd.func21, Tryd.ntmps21
    go_wp2_with fail
    refine HI.out.mono ?_
    rintro e w' ⟨rfl, rfl⟩
    go_wp2_with fail
    go_quiet (fail)
    go_wp2
    go_ret3
    exact ⟨rfl, _, rfl⟩
  have H' := Lib.hid H
  clear H HI hl hsl hs
  go_enter Tryd.func11, Tryd.ntmps11
  go_wp2_with fail
  refine H'.out.mono ?_
  rintro e w' ⟨rfl, n, rfl⟩
  go_wp2
  go_ret3
  exact ⟨rfl, _, rfl⟩
set_option maxRecDepth 100000 in
theorem CutNo_any (s : ByteArray) (c : UInt8) (w : World) (hi : firstIdx s c = -1) :
    Calls Tryd.prog 11 #[.string s, .string ⟨#[c]⟩] w fun e w' => e = .returned (.tuple #[.string s, .string ByteArray.empty, .bool false]) ∧ ∃ n, w' = w.drewN n := by
  have hI := IndexOne_any s c w
  rw [hi] at hI
  have HI := Lib.hid hI
  clear hI hi
  have H : Calls Tryd.prog 21 #[.string s, .string ⟨#[c]⟩] w fun e w' => e = .returned (.tuple #[.string s, .string ByteArray.empty, .bool false]) ∧ w' = w := by
    go_enter Tryd.func21, Tryd.ntmps21
    go_wp2_with fail
    refine HI.out.mono ?_
    rintro e w' ⟨rfl, rfl⟩
    go_wp2
    go_ret3
    exact ⟨rfl, rfl⟩
  have H' := Lib.hid H
  clear H HI
  go_enter Tryd.func11, Tryd.ntmps11
  go_wp2_with fail
  refine H'.out.mono ?_
  rintro e w' ⟨rfl, rfl⟩
  go_wp2
  go_ret3
  exact ⟨rfl, 0, rfl⟩
end Go.Proofs.YtjmifcddkjcopaaDoor
namespace Go.Creel
open Go.RowKit
def valN (s : ByteArray) : Nat → Nat
  | 0 => 0
  | k + 1 => 10 * valN s k + (byt s k - 48)
def IsNum (s : ByteArray) (k : Nat) : Prop := ∀ j, j < k → 48 ≤ byt s j ∧ byt s j ≤ 57
def RecHead (s : ByteArray) (k : Nat) : Prop := 1 ≤ k ∧ k ≤ 4 ∧ k < s.size ∧ IsNum s k ∧ byt s 0 ≠ 48 ∧ byt s k = 32
theorem RecHead.one {s : ByteArray} {k m : Nat} (h : RecHead s k) (g : RecHead s m) : k = m := by
  obtain ⟨_, _, _, h4, _, h6⟩ := h
  obtain ⟨_, _, _, g4, _, g6⟩ := g
  rcases Nat.lt_trichotomy k m with e | e | e
  · have := g4 k e; omega
  · exact e
  · have := h4 m e; omega
theorem valN_le {s : ByteArray} {k : Nat} (h : IsNum s k) : valN s k < 10 ^ k := by
  induction k with
  | zero => simp [valN]
  | succ k ih =>
    have h1 := ih (fun j hj => h j (by omega))
    have h2 := h k (by omega)
    simp only [valN, Nat.pow_succ]
    omega
def recNo (e : Int) : Rec × ByteArray × Int := (⟨ByteArray.empty, ByteArray.empty⟩, ByteArray.empty, e)
def recAt (s : ByteArray) (k n i : Nat) : Rec × ByteArray × Int :=
  if recFault ⟨s.extract (k + 1) i, s.extract (i + 1) (n - 1)⟩ ≠ 0 then recNo (recFault ⟨s.extract (k + 1) i, s.extract (i + 1) (n - 1)⟩)
  else if recText ⟨s.extract (k + 1) i, s.extract (i + 1) (n - 1)⟩ = s.extract 0 n then (⟨s.extract (k + 1) i, s.extract (i + 1) (n - 1)⟩, s.extract n s.size, 0) else recNo 3
def RecRes (s : ByteArray) (x : Rec × ByteArray × Int) : Prop :=
  ((¬ ∃ k, RecHead s k) ∧ x = recNo 3) ∨ ∃ k, RecHead s k ∧
    ((s.size < valN s k ∧ x = recNo 7) ∨
      (valN s k ≤ s.size ∧ (valN s k < k + 2 ∨ byt s (valN s k - 1) ≠ 10) ∧ x = recNo 3) ∨
      (valN s k ≤ s.size ∧ k + 2 ≤ valN s k ∧ byt s (valN s k - 1) = 10 ∧ (∀ j, k + 1 ≤ j → j < valN s k - 1 → byt s j ≠ 61) ∧ x = recNo 3) ∨
      (valN s k ≤ s.size ∧ k + 2 ≤ valN s k ∧ byt s (valN s k - 1) = 10 ∧ ∃ i, AtByte s 61 (k + 1) (valN s k - 1) i ∧ x = recAt s k (valN s k) i))
theorem RecRes.one {s : ByteArray} {x y : Rec × ByteArray × Int} (h : RecRes s x) (g : RecRes s y) : x = y := by
  rcases h with ⟨hn, rfl⟩ | ⟨k, hk, h⟩
  · rcases g with ⟨_, rfl⟩ | ⟨m, hm, _⟩
    · rfl
    · exact absurd ⟨m, hm⟩ hn
  · rcases g with ⟨gn, _⟩ | ⟨m, hm, g⟩
    · exact absurd ⟨k, hk⟩ gn
    · obtain rfl := hk.one hm
      rcases h with ⟨h1, rfl⟩ | ⟨h1, h2, rfl⟩ | ⟨h1, h2, h3, h4, rfl⟩ | ⟨h1, h2, h3, i, h4, rfl⟩
      · rcases g with ⟨g1, rfl⟩ | ⟨g1, g2, rfl⟩ | ⟨g1, g2, g3, g4, rfl⟩ | ⟨g1, g2, g3, i, g4, rfl⟩
        · rfl
        · omega
        · omega
        · omega
      · rcases g with ⟨g1, rfl⟩ | ⟨g1, g2, rfl⟩ | ⟨g1, g2, g3, g4, rfl⟩ | ⟨g1, g2, g3, i, g4, rfl⟩
        · omega
        · rfl
        · rfl
        · rcases h2 with h2 | h2
          · omega
          · exact absurd g3 h2
      · rcases g with ⟨g1, rfl⟩ | ⟨g1, g2, rfl⟩ | ⟨g1, g2, g3, g4, rfl⟩ | ⟨g1, g2, g3, i, g4, rfl⟩
        · omega
        · rfl
        · rfl
        · exact absurd g4.2.2.1 (h4 i g4.1 g4.2.1)
      · rcases g with ⟨g1, rfl⟩ | ⟨g1, g2, rfl⟩ | ⟨g1, g2, g3, g4, rfl⟩ | ⟨g1, g2, g3, i', g4, rfl⟩
        · omega
        · rcases g2 with g2 | g2
          · omega
          · exact absurd h3 g2
        · exact absurd h4.2.2.1 (g4 i h4.1 h4.2.1)
        · rw [h4.one g4]
open Classical in
noncomputable def recOf (s : ByteArray) : Rec × ByteArray × Int := if h : ∃ x, RecRes s x then Classical.choose h else recNo 3
theorem recOf_is {s : ByteArray} {x : Rec × ByteArray × Int} (h : RecRes s x) : recOf s = x := by
  have hex : ∃ x, RecRes s x := ⟨x, h⟩
  unfold recOf
  rw [dif_pos hex]
  exact (Classical.choose_spec hex).one h
theorem recOf_head {s : ByteArray} (h : ¬ ∃ k, RecHead s k) : recOf s = recNo 3 := recOf_is (.inl ⟨h, rfl⟩)
theorem recOf_short {s : ByteArray} {k : Nat} (h : RecHead s k) (h1 : s.size < valN s k) : recOf s = recNo 7 := recOf_is (.inr ⟨k, h, .inl ⟨h1, rfl⟩⟩)
theorem recOf_end {s : ByteArray} {k : Nat} (h : RecHead s k) (h1 : valN s k ≤ s.size) (h2 : valN s k < k + 2 ∨ byt s (valN s k - 1) ≠ 10) : recOf s = recNo 3 := recOf_is (.inr ⟨k, h, .inr (.inl ⟨h1, h2, rfl⟩)⟩)
theorem recOf_none {s : ByteArray} {k : Nat} (h : RecHead s k) (h1 : valN s k ≤ s.size) (h2 : k + 2 ≤ valN s k) (h3 : byt s (valN s k - 1) = 10) (h4 : ∀ j, k + 1 ≤ j → j < valN s k - 1 → byt s j ≠ 61) : recOf s = recNo 3 :=
  recOf_is (.inr ⟨k, h, .inr (.inr (.inl ⟨h1, h2, h3, h4, rfl⟩))⟩)
theorem recOf_at {s : ByteArray} {k i : Nat} (h : RecHead s k) (h1 : valN s k ≤ s.size) (h2 : k + 2 ≤ valN s k) (h3 : byt s (valN s k - 1) = 10) (h4 : AtByte s 61 (k + 1) (valN s k - 1) i) : recOf s = recAt s k (valN s k) i :=
  recOf_is (.inr ⟨k, h, .inr (.inr (.inr ⟨h1, h2, h3, i, h4, rfl⟩))⟩)
theorem recAt_bad {s : ByteArray} {k n i : Nat} {f : Int} (h : recFault ⟨s.extract (k + 1) i, s.extract (i + 1) (n - 1)⟩ = f) (hf : f ≠ 0) : recAt s k n i = recNo f := by unfold recAt; rw [if_pos (by rw [h]; exact hf), h]
theorem recAt_odd {s : ByteArray} {k n i : Nat} (h : recFault ⟨s.extract (k + 1) i, s.extract (i + 1) (n - 1)⟩ = 0) (h2 : recText ⟨s.extract (k + 1) i, s.extract (i + 1) (n - 1)⟩ ≠ s.extract 0 n) : recAt s k n i = recNo 3 := by unfold recAt; rw [if_neg (by rw [h]; simp), if_neg h2]
theorem recAt_ok {s : ByteArray} {k n i : Nat} (h : recFault ⟨s.extract (k + 1) i, s.extract (i + 1) (n - 1)⟩ = 0) (h2 : recText ⟨s.extract (k + 1) i, s.extract (i + 1) (n - 1)⟩ = s.extract 0 n) : recAt s k n i = (⟨s.extract (k + 1) i, s.extract (i + 1) (n - 1)⟩, s.extract n s.size, 0) := by unfold recAt; rw [if_neg (by rw [h]; simp), if_pos h2]
def recDigs : List UInt8 := [48, 49, 50, 51, 52, 53, 54, 55, 56, 57]
theorem digs_has (x : UInt8) : recDigs.contains x = true ↔ 48 ≤ x.toNat ∧ x.toNat ≤ 57 := by
  rw [List.contains_iff_mem]
  unfold recDigs
  simp only [List.mem_cons, List.not_mem_nil, or_false, ← UInt8.toNat_inj, UInt8.reduceToNat]
  omega
theorem mem_dropWhile {p : UInt8 → Bool} {l : List UInt8} {x : UInt8} (hx : x ∈ l) (hp : p x = false) : x ∈ l.dropWhile p := by
  induction l with
  | nil => cases hx
  | cons a l ih =>
    by_cases ha : p a = true
    · rw [List.dropWhile_cons_of_pos ha]
      rcases List.mem_cons.1 hx with e | e
      · rw [e, ha] at hp; cases hp
      · exact ih e
    · rw [List.dropWhile_cons_of_neg ha]; exact hx
theorem trim_digs (l : List UInt8) : (Lib.trimS l recDigs = []) ↔ ∀ x ∈ l, 48 ≤ x.toNat ∧ x.toNat ≤ 57 := by
  constructor
  · intro h x hx
    cases hc : recDigs.contains x with
    | true => exact (digs_has x).1 hc
    | false =>
      have h1 : x ∈ Lib.trimRightS l recDigs := by
        unfold Lib.trimRightS
        rw [List.mem_reverse]
        exact mem_dropWhile (by simpa using hx) hc
      have h2 : x ∈ Lib.trimS l recDigs := mem_dropWhile h1 hc
      rw [h] at h2; cases h2
  · intro h
    have hall : ∀ m : List UInt8, (∀ x ∈ m, recDigs.contains x = true) → m.dropWhile (recDigs.contains ·) = [] := by
      intro m
      induction m with
      | nil => intro _; rfl
      | cons a m ih =>
        intro hm
        rw [List.dropWhile_cons_of_pos (hm a (by simp))]
        exact ih (fun x hx => hm x (by simp [hx]))
    unfold Lib.trimS Lib.trimRightS Lib.trimLeftS
    rw [hall l.reverse (fun x hx => (digs_has x).2 (h x (by simpa using hx)))]
    rfl
theorem byt_list {s : ByteArray} {j : Nat} (h : j < s.size) : ∃ b, s.data.toList[j]? = some b ∧ b.toNat = byt s j := by
  have h1 : j < s.data.toList.length := by simpa using h
  refine ⟨s.data.toList[j], List.getElem?_eq_getElem h1, ?_⟩
  unfold byt
  rw [List.getD_eq_getElem?_getD, List.getElem?_eq_getElem h1]; rfl
theorem take_bytes {s : ByteArray} {k : Nat} (h : k ≤ s.size) : (s.extract 0 k).data.toList = s.data.toList.take k := by
  rw [Lib.extract_data, List.drop_zero, Nat.sub_zero]
theorem num_iff {s : ByteArray} {k : Nat} (h : k ≤ s.size) : (∀ x ∈ (s.extract 0 k).data.toList, 48 ≤ x.toNat ∧ x.toNat ≤ 57) ↔ IsNum s k := by
  rw [take_bytes h]
  constructor
  · intro hx j hj
    obtain ⟨b, hb, e⟩ := byt_list (s := s) (j := j) (by omega)
    rw [← e]
    exact hx b (List.mem_of_getElem? (i := j) (by rw [List.getElem?_take, if_pos hj]; exact hb))
  · intro hn x hx
    obtain ⟨j, hj, rfl⟩ := List.getElem_of_mem hx
    have hj' : j < k := by rw [List.length_take] at hj; omega
    obtain ⟨b, hb, e⟩ := byt_list (s := s) (j := j) (by omega)
    rw [List.getElem_take]
    have : s.data.toList[j]'(by rw [List.length_take] at hj; omega) = b := by
      rw [List.getElem?_eq_getElem (by rw [List.length_take] at hj; omega)] at hb
      exact Option.some.inj hb
    rw [this, e]
    exact hn j hj'
theorem decFrom_num {s : ByteArray} : ∀ {k : Nat}, k ≤ s.size → IsNum s k → Lib.decFrom 0 (s.data.toList.take k) = some (valN s k)
  | 0, _, _ => rfl
  | k + 1, h, hn => by
    have ih := decFrom_num (k := k) (by omega) (fun j hj => hn j (by omega))
    obtain ⟨b, hb, e⟩ := byt_list (s := s) (j := k) (by omega)
    have hd := hn k (by omega)
    have := Lib.decFrom_take s.data.toList k 0 (valN s k) b (byt s k - 48) ih hb (by unfold Lib.digitVal; rw [e, if_pos hd])
    rw [this]
    simp only [valN]
    congr 1
    omega
theorem atoi_num {s : ByteArray} {k : Nat} (h1 : 1 ≤ k) (h : k ≤ s.size) (hn : IsNum s k) : Lib.atoi (s.extract 0 k).data.toList = some (valN s k : Int) := by
  rw [take_bytes h]
  have hd := decFrom_num h hn
  obtain ⟨b, hb, e⟩ := byt_list (s := s) (j := 0) (by omega)
  have h0 := hn 0 (by omega)
  obtain ⟨r, hr⟩ : ∃ r, s.data.toList.take k = b :: r := by
    cases hl : s.data.toList with
    | nil => rw [hl] at hb; cases hb
    | cons a t =>
      rw [hl] at hb
      obtain rfl : a = b := by simpa using hb
      obtain ⟨m, rfl⟩ : ∃ m, k = m + 1 := ⟨k - 1, by omega⟩
      exact ⟨t.take m, by rw [List.take_succ_cons]⟩
  rw [hr] at hd ⊢
  have hb1 : (b == 45) = false := by
    rw [beq_eq_false_iff_ne]; intro e2; rw [e2] at e; have : (45 : UInt8).toNat = 45 := rfl; omega
  have hb2 : (b == 43) = false := by
    rw [beq_eq_false_iff_ne]; intro e2; rw [e2] at e; have : (43 : UInt8).toNat = 43 := rfl; omega
  unfold Lib.atoi
  simp only [hb1, hb2, Bool.false_eq_true, if_false]
  unfold Lib.decNat
  simp [hd]
theorem ext_ext {s : ByteArray} {a b i j : Nat} (hj : a + j ≤ b) : (s.extract a b).extract i j = s.extract (a + i) (a + j) := by
  apply ext_bytes
  rw [Lib.extract_data, Lib.extract_data, Lib.extract_data, List.drop_take, List.drop_drop, List.take_take]
  congr 1
  omega
theorem byt_part {s : ByteArray} {a b j : Nat} (hb : b ≤ s.size) (hj : a + j < b) : byt (s.extract a b) j = byt s (a + j) := by
  unfold byt
  rw [Lib.extract_data, List.getD_eq_getElem?_getD, List.getD_eq_getElem?_getD, List.getElem?_take, if_pos (by omega), List.getElem?_drop]
end Go.Creel
namespace Go.Proofs.YtjmifcddkjcopaaDoor
open Go.Creel Go.RowKit
theorem recSum (I : ByteArray) (r : Rec) : ((((I ++ ByteArray.mk #[32]) ++ r.key) ++ ⟨#[61]⟩) ++ r.value) ++ ⟨#[10]⟩ = I ++ recTail r := by
  unfold recTail
  simp only [ByteArray.append_assoc]
set_option maxRecDepth 100000 in
set_option maxHeartbeats 2000000 in
theorem RecT_any (r : Rec) (w : World) (hk : r.key.size ≤ maxLen) (hv : r.value.size ≤ maxLen) (hT : Pow10 w) :
    Calls Tryd.prog 17 #[.agg r.cells] w fun e w' => e = .returned (.tuple #[.string (recWrite r).1, .int .i64 (recWrite r).2]) ∧ Below w.heap.size w w' := by
  have HC := Lib.hid (fun W => RecR_any r W hk hv)
  have HT := Lib.hid hT
  clear hT
  have hs := recFault_small (r := r)
  by_cases h0 : recFault r = 0
  · obtain ⟨_, hk1, hv1, _, _⟩ := recFault_ok h0
    have HF := Lib.hid (recWrite_ok h0)
    have hts := recTail_size r
    have HSM := Lib.hid (fun I => recSum I r)
    rw [h0] at HC
    clear h0 hs hk hv
    obtain ⟨key, value⟩ := r
    have HTX := Lib.hid (show recText ⟨key, value⟩ = ofL (Lib.decDigits (recN (recTail ⟨key, value⟩).size)) ++ recTail ⟨key, value⟩ from rfl)
    show Calls Tryd.prog 17 #[.agg #[.string key, .string value]] w _
    simp only [Rec.cells] at HC hts hk1 hv1 HSM
    go_enter Tryd.func17, Tryd.ntmps17
    go_wp2_with fail
    refine (HC.out _).mono ?_
    rintro e w1 ⟨rfl, hb⟩
    have HA0 := Lib.hid ((Below.refl w.heap.size w).alloc (Nat.le_refl _) (Obj.cells #[.string key, .string value] 23))
    obtain ⟨c0, c1⟩ : (w.alloc (Obj.cells #[.string key, .string value] 23)).cell? ⟨w.heap.size, 0, none⟩ = some (.string key) ∧ (w.alloc (Obj.cells #[.string key, .string value] 23)).cell? ⟨w.heap.size, 1, none⟩ = some (.string value) := by constructor <;> simp
    have hsz0 : w.heap.size < (w.alloc (Obj.cells #[.string key, .string value] 23)).heap.size := by simp
    generalize w.alloc (Obj.cells #[.string key, .string value] 23) = W0 at *
    have HZ0 := Lib.hid (And.intro hsz0 (And.intro c0 c1))
    have HB := Lib.hid hb
    clear hb c0 c1 hsz0
    go_wp2
    generalize recTail ⟨key, value⟩ = t at *
    have HFI := Lib.hid (recN_fits (L := t.size) (by omega))
    have HFS := Lib.hid (fun n => recN_first (L := t.size) (n := n) (by omega))
    have HBD := Lib.hid (recN_bd t.size)
    go_loopw [5, 6] (fun v _ wr => ∃ n : Nat, v = .int .i64 n ∧ n ≤ recN t.size ∧ Hid (Below W0.heap.size W0 wr)) (fun v _ _ => 1000 - (intOf v).toNat)
    case atStart => exact ⟨1, rfl, by have := HBD.out; omega, HB⟩
    case round =>
      obtain ⟨n, rfl, hn2, HBR⟩ := hrel
      have hbd := HBD.out
      have hts2 : t.size = key.size + value.size + 3 := hts
      have HI := Lib.hid (fun W (hB : Below W0.heap.size W0 W) => show Calls Tryd.prog 33 #[.int .i64 n] W (fun e w' => e = .returned (.string (ofL (Lib.decDigits n))) ∧ w'.cell? ⟨w.heap.size, 0, none⟩ = some (.string key) ∧ w'.cell? ⟨w.heap.size, 1, none⟩ = some (.string value) ∧ Below W0.heap.size W0 w') from
        (ItoaN_any n W (by omega) (HT.out.below (HA0.out.trans (hB.mono HA0.out.size)))).mono (by
          rintro e w' ⟨rfl, hb⟩
          have hb' := hB.trans (hb.mono hB.size)
          have hc := (bcell hb').1
          exact ⟨rfl, by rw [hc _ _ HZ0.out.1]; exact HZ0.out.2.1, by rw [hc _ _ HZ0.out.1]; exact HZ0.out.2.2, hb'⟩))
      have hsz := ofL_size (Lib.decDigits n)
      have hdl : (Lib.decDigits n).length ≤ 3 := by have := dlen_cases (n := n) (by omega); omega
      have hsm := HSM.out (ofL (Lib.decDigits n))
      have hcr := (bcell HBR.out).1
      have c0 : wr.cell? ⟨w.heap.size, 0, none⟩ = some (.string key) := by rw [hcr _ _ HZ0.out.1]; exact HZ0.out.2.1
      have c1 : wr.cell? ⟨w.heap.size, 1, none⟩ = some (.string value) := by rw [hcr _ _ HZ0.out.1]; exact HZ0.out.2.2
      have hdr := HBR.out.drew
      clear hcr hbd
      go_upto_region 6 with fail
      go_cut [6] from 12 to 29 (fun x wx => x = .string (ofL (Lib.decDigits n) ++ t) ∧ Hid (Below W0.heap.size W0 wx))
      case first =>
        generalize ofL (Lib.decDigits n) = x at *
        generalize (Lib.decDigits n).length = d at *
        have q1 : ¬ 9223372036854775807 < d + 1 := by omega
        have q2 : ¬ 9223372036854775807 < d + 1 + key.size := by omega
        have q3 : ¬ 9223372036854775807 < d + 1 + key.size + 1 := by omega
        have q4 : ¬ 9223372036854775807 < d + 1 + key.size + 1 + value.size := by omega
        have q5 : ¬ 9223372036854775807 < d + 1 + key.size + 1 + value.size + 1 := by omega
        go_region_held3 (fun w' => w'.cell? ⟨w.heap.size, 0, none⟩ = some (.string key) ∧ w'.cell? ⟨w.heap.size, 1, none⟩ = some (.string value) ∧ Below W0.heap.size W0 w') (go_keep)
          (first | (go_at_call 33; refine (HI.out _ ?_).mono ?_; (simp [*]); rintro e w3 ⟨rfl, hc0, hc1, hb3⟩))
        go_wp2_with fail
        go_meet
        exact ⟨rfl, Lib.hid hb3⟩
      case rest =>
        obtain ⟨rfl, HBC⟩ := hcut
        have hxs : (ofL (Lib.decDigits n) ++ t).size = (Lib.decDigits n).length + (key.size + value.size + 3) := by rw [ByteArray.size_append, hsz, hts]
        clear c0 c1 hdr HI
        by_cases hd : n = t.size + (Lib.decDigits n).length
        · have hn : n = recN t.size := by
            rcases Nat.lt_or_ge n (recN t.size) with h | h
            · exact absurd hd (HFS.out n h)
            · omega
          have HR := Lib.hid (show recWrite ⟨key, value⟩ = (ofL (Lib.decDigits n) ++ t, 0) by rw [HF.out, HTX.out, hn])
          generalize ofL (Lib.decDigits n) ++ t = x at *
          generalize (Lib.decDigits n).length = d at *
          clear hn HFI HFS HTX HF hsm HSM hsz
          have hxn : x.size = n := by omega
          go_wp2
          go_ret2
          exact ⟨ret_si HR.out, HA0.out.trans (HBC.out.mono HA0.out.size)⟩
        · have hn : n < recN t.size := by
            have hne : n ≠ recN t.size := by intro e; exact hd (by rw [e]; exact HFI.out)
            omega
          generalize ofL (Lib.decDigits n) ++ t = x at *
          generalize (Lib.decDigits n).length = d at *
          have hd2 : ¬ x.size = n := by omega
          clear HFI HFS HTX HF hsm HSM hsz
          have hbd := HBD.out
          go_wp2
          go_roundw
          · exact ⟨n + 1, by simp, by omega, HBC⟩
          · simp only [intOf]; omega
  · have HF := Lib.hid (recWrite_bad h0)
    clear hk hv
    generalize recFault r = f at *
    obtain ⟨key, value⟩ := r
    show Calls Tryd.prog 17 #[.agg #[.string key, .string value]] w _
    simp only [Rec.cells] at HC
    go_enter Tryd.func17, Tryd.ntmps17
    go_wp2_with fail
    refine (HC.out _).mono ?_
    rintro e w1 ⟨rfl, hb⟩
    have HB := Lib.hid (((Below.refl _ _).alloc (Nat.le_refl _) _).trans (hb.mono (by simp)))
    clear hb
    go_wp2
    go_ret2
    exact ⟨ret_si HF.out, HB.out⟩
end Go.Proofs.YtjmifcddkjcopaaDoor
namespace Go.Creel
open Go.RowKit
theorem results_rec3 {fn : Func} {p u x : Tmp} {ty : TypeId} (h : fn.results = #[.cell p ty, .tmp u, .tmp x]) (tmps : Array Value) (P : Program) (w : World) :
    (results fn tmps).run P w =
      ((asAddr (tmps.getD p undef)).run P w).andThen fun a w₁ => ((loadVar ty a).run P w₁).andThen fun v w₂ => .ok (.tuple #[v, tmps.getD u undef, tmps.getD x undef]) w₂ := by
  simp only [results, h]
  simp [Sem.run_bind, Result.andThen]
def RBox (ty : TypeId) (b : Nat) (key value : ByteArray) (w : World) : Prop := w.heap[b]? = some (.cells #[.string key, .string value] ty (0, 0))
theorem RBox.lt {ty : TypeId} {b : Nat} {x y : ByteArray} {w : World} (h : RBox ty b x y w) : b < w.heap.size := (Array.getElem?_eq_some_iff.1 h).1
theorem RBox.on {ty : TypeId} {b : Nat} {x y : ByteArray} {w w' : World} (h : RBox ty b x y w) (hb : Below w.heap.size w w') : RBox ty b x y w' := (hb.block b h.lt).trans h
theorem RBox.facts {ty : TypeId} {b : Nat} {x y : ByteArray} {w : World} (h : RBox ty b x y w) : w.cell? ⟨b, 0, none⟩ = some (.string x) ∧ w.cell? ⟨b, 1, none⟩ = some (.string y) ∧ w.frozen? ⟨b, 0, none⟩ = false ∧ w.frozen? ⟨b, 1, none⟩ = false := by
  have h' := h
  unfold RBox at h'
  exact ⟨cellAt h' rfl, cellAt h' rfl, frozen_of_row w b 0 _ ty h', frozen_of_row w b 1 _ ty h'⟩
theorem head_at {s : ByteArray} {k m : Nat} (h1 : byt s k = 32) (h2 : ∀ j, j < k → byt s j ≠ 32) (h : RecHead s m) : m = k := by
  obtain ⟨_, _, _, h4, _, h6⟩ := h
  rcases Nat.lt_trichotomy m k with e | e | e
  · exact absurd h6 (h2 m e)
  · exact e
  · have := h4 k e; omega
end Go.Creel
namespace Go.Proofs.YtjmifcddkjcopaaDoor
open Go.Creel Go.RowKit
theorem TrimDigs_any (s : ByteArray) (w : World) (hs : s.size ≤ maxLen) :
    Calls Tryd.prog 12 #[.string s, .string ⟨#[48, 49, 50, 51, 52, 53, 54, 55, 56, 57]⟩] w fun e w' => e = .returned (.string (ofL (Lib.trimS s.data.toList recDigs))) ∧ Below w.heap.size w w' :=
  (Any.strings_Trim_laid Tryd.lays160 (by kernel_rfl) s ⟨#[48, 49, 50, 51, 52, 53, 54, 55, 56, 57]⟩ w (by unfold maxLen at hs; omega) (by decide) (ascii_of_all (by decide))).mono fun e w' ⟨he, hb⟩ => ⟨he, hb⟩
theorem AtoiNum_any (s : ByteArray) (k : Nat) (w : World) (h1 : 1 ≤ k) (h4 : k ≤ 4) (hk : k ≤ s.size) (hn : IsNum s k) :
    Calls Tryd.prog 13 #[.string (s.extract 0 k)] w fun e w' => e = .returned (.tuple #[.int .i64 (valN s k : Int), .nilIface]) ∧ Below w.heap.size w w' :=
  (Tryd.strconv_Atoi (s.extract 0 k) (valN s k) (by simp; omega) (atoi_num h1 hk hn) w).mono (by
    rintro e w' ⟨he, t, rfl⟩
    exact ⟨he, Lib.bytesWorld_below _ _ _⟩)
set_option maxRecDepth 100000 in
theorem RNoL_any (e : Int) (w : World) :
    Calls Tryd.prog 10 #[.int .i64 e] w fun x w' => x = .returned (.tuple #[.agg #[.string ⟨#[]⟩, .string ⟨#[]⟩], .string ⟨#[]⟩, .int .i64 e]) ∧ Below w.heap.size w w' := by
  go_enter Tryd.func10, Tryd.ntmps10
  go_wp2
  (try simp only [Exit.inBlock, Exit.then])
  refine bodyPost_ret (v := .tuple #[.agg #[.string ⟨#[]⟩, .string ⟨#[]⟩], .string ⟨#[]⟩, .int .i64 e]) (by rw [results_rec3 rfl]; go_simp) rfl ?_
  exact ⟨rfl, ((Below.refl _ _).alloc (Nat.le_refl _) _)⟩
set_option maxRecDepth 100000 in
set_option maxHeartbeats 4000000 in
theorem RecRead_any (s : ByteArray) (w : World) (hs : s.size ≤ maxLen) (hT : Pow10 w) :
    Calls Tryd.prog 5 #[.string s] w fun e w' => e = .returned (.tuple #[.agg (recOf s).1.cells, .string (recOf s).2.1, .int .i64 (recOf s).2.2]) ∧ Below w.heap.size w w' := by
  have HT := Lib.hid hT
  have hs' := hs
  have HSM := Lib.hid hs
  unfold maxLen at hs
  clear hT
  have HA0 := Lib.hid ((Below.refl w.heap.size w).alloc (Nat.le_refl _) (.cells #[.string ⟨#[]⟩, .string ⟨#[]⟩] 23))
  have HRB := Lib.hid (show RBox 23 w.heap.size ⟨#[]⟩ ⟨#[]⟩ (w.alloc (.cells #[.string ⟨#[]⟩, .string ⟨#[]⟩] 23)) from heap_alloc_new w _)
  go_enter Tryd.func5, Tryd.ntmps5
  go_wp2_with fail
  generalize hW0 : w.alloc (.cells #[.string ⟨#[]⟩, .string ⟨#[]⟩] 23) = W0 at *
  clear hW0
  rcases idx_lt (s := s) (c := 32) with hlt | ⟨k, hi, hk, hbk, hno⟩
  · have hi : firstIdx s 32 = -1 := idx_none (by cases h : hasB s 32 with | false => rfl | true => have := idx_ge h; omega)
    have HF := Lib.hid (recOf_head (s := s) (by
      rintro ⟨k, _, _, h3, _, _, h6⟩
      have : hasB s 32 = true := hasB_true h3 (by rw [h6]; rfl)
      have := idx_ge this
      omega))
    refine (CutNo_any s 32 _ hi).mono ?_
    rintro e w2 ⟨rfl, n, rfl⟩
    have HW := Lib.hid (below_drewN (Below.refl W0.heap.size W0) n)
    clear hlt hi
    go_wp2_with fail
    refine (RNoL_any 3 _).mono ?_
    rintro e w9 ⟨rfl, hb⟩
    have HW9 := Lib.hid (HW.out.trans (hb.mono HW.out.size))
    obtain ⟨c0, c1, f0, f1⟩ := (HRB.out.on HW9.out).facts
    clear hb
    go_wp2
    (try simp only [Exit.inBlock, Exit.then])
    refine bodyPost_ret (v := .tuple #[.agg #[.string ⟨#[]⟩, .string ⟨#[]⟩], .string ⟨#[]⟩, .int .i64 3]) (by rw [results_rec3 rfl]; go_simp) rfl ?_
    rw [HF.out]
    exact ⟨rfl, ((HA0.out.trans (HW9.out.mono HA0.out.size)).setCell (p := ⟨w.heap.size, 0, none⟩) (Nat.le_refl _) _).setCell (p := ⟨w.heap.size, 1, none⟩) (Nat.le_refl _) _⟩
  · have hbk : byt s k = 32 := hbk
    have HNO := Lib.hid (show ∀ j, j < k → byt s j ≠ 32 from hno)
    have hcs : (s.extract 0 k).size = k := by simp; omega
    have HNX := Lib.hid (fun (h : ¬ RecHead s k) => recOf_head (s := s) (fun ⟨m, hm⟩ => h (by rw [← head_at hbk HNO.out hm]; exact hm)))
    refine (CutYes_any s 32 k _ hs' hi hk).mono ?_
    rintro e w2 ⟨rfl, n, rfl⟩
    have HW := Lib.hid (below_drewN (Below.refl W0.heap.size W0) n)
    have HBK := Lib.hid hbk
    clear hno hi hbk
    by_cases h1 : k < 1
    · have HF := Lib.hid (HNX.out (fun h => by have := h.1; omega))
      go_wp2_with fail
      refine (RNoL_any 3 _).mono ?_
      rintro e w9 ⟨rfl, hb⟩
      have HW9 := Lib.hid (HW.out.trans (hb.mono HW.out.size))
      obtain ⟨c0, c1, f0, f1⟩ := (HRB.out.on HW9.out).facts
      clear hb
      go_wp2
      (try simp only [Exit.inBlock, Exit.then])
      refine bodyPost_ret (v := .tuple #[.agg #[.string ⟨#[]⟩, .string ⟨#[]⟩], .string ⟨#[]⟩, .int .i64 3]) (by rw [results_rec3 rfl]; go_simp) rfl ?_
      rw [HF.out]
      exact ⟨rfl, ((HA0.out.trans (HW9.out.mono HA0.out.size)).setCell (p := ⟨w.heap.size, 0, none⟩) (Nat.le_refl _) _).setCell (p := ⟨w.heap.size, 1, none⟩) (Nat.le_refl _) _⟩
    · by_cases h4 : 4 < k
      · have HF := Lib.hid (HNX.out (fun h => by have := h.2.1; omega))
        go_wp2_with fail
        refine (RNoL_any 3 _).mono ?_
        rintro e w9 ⟨rfl, hb⟩
        have HW9 := Lib.hid (HW.out.trans (hb.mono HW.out.size))
        obtain ⟨c0, c1, f0, f1⟩ := (HRB.out.on HW9.out).facts
        clear hb
        go_wp2
        (try simp only [Exit.inBlock, Exit.then])
        refine bodyPost_ret (v := .tuple #[.agg #[.string ⟨#[]⟩, .string ⟨#[]⟩], .string ⟨#[]⟩, .int .i64 3]) (by rw [results_rec3 rfl]; go_simp) rfl ?_
        rw [HF.out]
        exact ⟨rfl, ((HA0.out.trans (HW9.out.mono HA0.out.size)).setCell (p := ⟨w.heap.size, 0, none⟩) (Nat.le_refl _) _).setCell (p := ⟨w.heap.size, 1, none⟩) (Nat.le_refl _) _⟩
      · have hp0 : 0 < (s.extract 0 k).size := by omega
        have hb0 : ((s.extract 0 k)[0]'hp0).toNat = byt s 0 := by rw [byt_get, byt_part (by omega) (by omega)]
        by_cases h48 : byt s 0 = 48
        · have HF := Lib.hid (HNX.out (fun h => h.2.2.2.2.1 h48))
          rw [h48] at hb0
          go_wp2_with fail
          refine (RNoL_any 3 _).mono ?_
          rintro e w9 ⟨rfl, hb⟩
          have HW9 := Lib.hid (HW.out.trans (hb.mono HW.out.size))
          obtain ⟨c0, c1, f0, f1⟩ := (HRB.out.on HW9.out).facts
          clear hb
          go_wp2
          (try simp only [Exit.inBlock, Exit.then])
          refine bodyPost_ret (v := .tuple #[.agg #[.string ⟨#[]⟩, .string ⟨#[]⟩], .string ⟨#[]⟩, .int .i64 3]) (by rw [results_rec3 rfl]; go_simp) rfl ?_
          rw [HF.out]
          exact ⟨rfl, ((HA0.out.trans (HW9.out.mono HA0.out.size)).setCell (p := ⟨w.heap.size, 0, none⟩) (Nat.le_refl _) _).setCell (p := ⟨w.heap.size, 1, none⟩) (Nat.le_refl _) _⟩
        · have h48' : ¬ ((s.extract 0 k)[0]'hp0).toNat = 48 := by rw [hb0]; exact h48
          have HTR := Lib.hid (fun w => TrimDigs_any (s.extract 0 k) w (by rw [hcs]; have := HSM.out; omega))
          have hti := (trim_digs (s.extract 0 k).data.toList).trans (num_iff (s := s) (k := k) (by omega))
          have HTY := Lib.hid (fun (h : IsNum s k) => empty_t (a := ofL (Lib.trimS (s.extract 0 k).data.toList recDigs)) (by rw [ofL_size, hti.2 h]; rfl))
          have HTN := Lib.hid (fun (h : ¬ IsNum s k) => empty_f (a := ofL (Lib.trimS (s.extract 0 k).data.toList recDigs)) (by rw [ofL_size]; intro e; exact h (hti.1 (List.length_eq_zero_iff.1 e))))
          clear hti
          have HAT := Lib.hid (fun w hn => AtoiNum_any s k w (by omega) (by omega) (by omega) hn)
          generalize s.extract 0 k = c at *
          generalize s.extract (k + 1) s.size = r at *
          generalize ofL (Lib.trimS c.data.toList recDigs) = tl at *
          go_wp2_with fail
          refine (HTR.out _).mono ?_
          rintro e w3 ⟨rfl, hb⟩
          have HW3 := Lib.hid (HW.out.trans (hb.mono HW.out.size))
          clear hb
          by_cases hnum : IsNum s k
          · have hem := HTY.out hnum
            have hq1 : (((byt s 0 : Nat) : Int) == 48) = false := by rw [beq_eq_false_iff_ne]; omega
            have hq2 : decide ((k : Int) < 1) = false := by rw [decide_eq_false_iff_not]; omega
            have hq3 : decide ((4 : Int) < k) = false := by rw [decide_eq_false_iff_not]; omega
            have hh : RecHead s k := ⟨by omega, by omega, hk, hnum, h48, HBK.out⟩
            have HH := Lib.hid hh
            have hvl := valN_le hnum
            have hv4 : valN s k < 10000 := Nat.lt_of_lt_of_le hvl (Nat.le_trans (Nat.pow_le_pow_right (by omega) (show k ≤ 4 by omega)) (by decide))
            have HNUM := Lib.hid hnum
            clear hh hvl hnum HTY HTN HTR
            go_wp2_with fail
            refine (HAT.out _ HNUM.out).mono ?_
            rintro e w4 ⟨rfl, hb⟩
            have HW4 := Lib.hid (HW3.out.trans (hb.mono HW3.out.size))
            clear hb
            generalize hvn : valN s k = v at *
            have HVN := Lib.hid hvn
            clear hvn
            by_cases h7 : s.size < v
            · have HF := Lib.hid (recOf_short HH.out (by rw [HVN.out]; exact h7))
              go_wp2_with fail
              refine (RNoL_any 7 _).mono ?_
              rintro e w9 ⟨rfl, hb⟩
              have HW9 := Lib.hid (HW4.out.trans (hb.mono HW4.out.size))
              obtain ⟨c0, c1, f0, f1⟩ := (HRB.out.on HW9.out).facts
              clear hb
              go_wp2
              (try simp only [Exit.inBlock, Exit.then])
              refine bodyPost_ret (v := .tuple #[.agg #[.string ⟨#[]⟩, .string ⟨#[]⟩], .string ⟨#[]⟩, .int .i64 7]) (by rw [results_rec3 rfl]; go_simp) rfl ?_
              rw [HF.out]
              exact ⟨rfl, ((HA0.out.trans (HW9.out.mono HA0.out.size)).setCell (p := ⟨w.heap.size, 0, none⟩) (Nat.le_refl _) _).setCell (p := ⟨w.heap.size, 1, none⟩) (Nat.le_refl _) _⟩
            · by_cases h2 : v < k + 2
              · have HF := Lib.hid (recOf_end HH.out (by rw [HVN.out]; omega) (.inl (by rw [HVN.out]; exact h2)))
                go_wp2_with fail
                refine (RNoL_any 3 _).mono ?_
                rintro e w9 ⟨rfl, hb⟩
                have HW9 := Lib.hid (HW4.out.trans (hb.mono HW4.out.size))
                obtain ⟨c0, c1, f0, f1⟩ := (HRB.out.on HW9.out).facts
                clear hb
                go_wp2
                (try simp only [Exit.inBlock, Exit.then])
                refine bodyPost_ret (v := .tuple #[.agg #[.string ⟨#[]⟩, .string ⟨#[]⟩], .string ⟨#[]⟩, .int .i64 3]) (by rw [results_rec3 rfl]; go_simp) rfl ?_
                rw [HF.out]
                exact ⟨rfl, ((HA0.out.trans (HW9.out.mono HA0.out.size)).setCell (p := ⟨w.heap.size, 0, none⟩) (Nat.le_refl _) _).setCell (p := ⟨w.heap.size, 1, none⟩) (Nat.le_refl _) _⟩
              · obtain ⟨m, rfl⟩ : ∃ m, v = m + 1 := ⟨v - 1, by omega⟩
                have hm : m < s.size := by omega
                have hbm : (s[m]'hm).toNat = byt s m := byt_get s m hm
                by_cases h10 : byt s m = 10
                · rw [h10] at hbm
                  have hvs : valN s k - 1 = m := by rw [HVN.out]; omega
                  have HEN := Lib.hid (fun (h : ∀ j, k + 1 ≤ j → j < m → byt s j ≠ 61) => recOf_none HH.out (by rw [HVN.out]; omega) (by rw [HVN.out]; omega) (by rw [hvs]; exact h10) (by rw [hvs]; exact h))
                  have HEA := Lib.hid (fun i (h : AtByte s 61 (k + 1) m i) => recOf_at (i := i) HH.out (by rw [HVN.out]; omega) (by rw [HVN.out]; omega) (by rw [hvs]; exact h10) (by rw [hvs]; exact h))
                  have hts : (s.extract (k + 1) m).size = m - (k + 1) := by simp; omega
                  have HBP := Lib.hid (fun j (hj : k + 1 + j < m) => byt_part (s := s) (a := k + 1) (b := m) (j := j) (by omega) hj)
                  have hle0 : k + 1 ≤ m := by omega
                  clear hvs
                  go_wp2_with fail
                  rcases idx_lt (s := s.extract (k + 1) m) (c := 61) with hlt | ⟨i, hi, hii, hbi, hnoi⟩
                  · have hi : firstIdx (s.extract (k + 1) m) 61 = -1 := idx_none (by cases h : hasB (s.extract (k + 1) m) 61 with | false => rfl | true => have := idx_ge h; omega)
                    have HF := Lib.hid (HEN.out (by
                      intro j hj1 hj2 e
                      have hq : k + 1 + (j - (k + 1)) = j := by omega
                      have hz : hasB (s.extract (k + 1) m) 61 = true := hasB_true (k := j - (k + 1)) (by omega) (by rw [HBP.out _ (by omega), hq, e]; rfl)
                      have := idx_ge hz
                      omega))
                    refine (CutNo_any _ 61 _ hi).mono ?_
                    rintro e w5 ⟨rfl, n2, hw5⟩
                    have HW5 := Lib.hid (show Below W0.heap.size W0 w5 by rw [hw5]; exact below_drewN HW4.out n2)
                    clear hw5
                    generalize s.extract (k + 1) m = t at *
                    have HW6 := Lib.hid (HW5.out.alloc HW5.out.size (.cells #[.string t, .string ⟨#[]⟩] 23))
                    clear hlt hi
                    go_wp2_with fail
                    refine (RNoL_any 3 _).mono ?_
                    rintro e w9 ⟨rfl, hb⟩
                    have HW9 := Lib.hid (HW6.out.trans (hb.mono HW6.out.size))
                    obtain ⟨c0, c1, f0, f1⟩ := (HRB.out.on HW9.out).facts
                    clear hb
                    go_wp2
                    (try simp only [Exit.inBlock, Exit.then])
                    refine bodyPost_ret (v := .tuple #[.agg #[.string ⟨#[]⟩, .string ⟨#[]⟩], .string ⟨#[]⟩, .int .i64 3]) (by rw [results_rec3 rfl]; go_simp) rfl ?_
                    rw [HF.out]
                    exact ⟨rfl, ((HA0.out.trans (HW9.out.mono HA0.out.size)).setCell (p := ⟨w.heap.size, 0, none⟩) (Nat.le_refl _) _).setCell (p := ⟨w.heap.size, 1, none⟩) (Nat.le_refl _) _⟩
                  · have hbi : byt (s.extract (k + 1) m) i = 61 := hbi
                    have hat : AtByte s 61 (k + 1) m (k + 1 + i) := by
                      refine ⟨by omega, by omega, ?_, ?_⟩
                      · rw [← HBP.out i (by omega)]; exact hbi
                      · intro j hj1 hj2 e
                        have hq : k + 1 + (j - (k + 1)) = j := by omega
                        exact hnoi (j - (k + 1)) (by omega) (by rw [HBP.out _ (by omega), hq, e]; rfl)
                    have HE := Lib.hid (HEA.out _ hat)
                    rw [HVN.out] at HE
                    have hk1 : (s.extract (k + 1) m).extract 0 i = s.extract (k + 1) (k + 1 + i) := ext_ext (by omega)
                    have hk2 : (s.extract (k + 1) m).extract (i + 1) (s.extract (k + 1) m).size = s.extract (k + 1 + i + 1) m := by rw [hts, ext_ext (by omega)]; congr 1; omega
                    have HAB := Lib.hid (fun f => recAt_bad (s := s) (k := k) (n := m + 1) (i := k + 1 + i) (f := f))
                    have HAO := Lib.hid (recAt_odd (s := s) (k := k) (n := m + 1) (i := k + 1 + i))
                    have HAK := Lib.hid (recAt_ok (s := s) (k := k) (n := m + 1) (i := k + 1 + i))
                    have hcy := CutYes_any (s.extract (k + 1) m) 61 i w4 (by rw [hts]; have := HSM.out; omega) hi hii
                    rw [hk1, hk2] at hcy
                    simp only [Nat.add_sub_cancel] at HAB HAO HAK
                    have HX1 := Lib.hid (show (s.extract (k + 1) (k + 1 + i)).size ≤ maxLen by simp; have := HSM.out; omega)
                    have HX2 := Lib.hid (show (s.extract (k + 1 + i + 1) m).size ≤ maxLen by simp; have := HSM.out; omega)
                    refine hcy.mono ?_
                    rintro e w5 ⟨rfl, n2, hw5⟩
                    have HW5 := Lib.hid (show Below W0.heap.size W0 w5 by rw [hw5]; exact below_drewN HW4.out n2)
                    clear hw5
                    clear hk1 hk2 hcy hat hbi hnoi hi hii hts
                    generalize s.extract (k + 1) (k + 1 + i) = key at *
                    generalize s.extract (k + 1 + i + 1) m = value at *
                    generalize s.extract (k + 1) m = t at *
                    have HKB := Lib.hid (show RBox 23 w5.heap.size key value (w5.alloc (.cells #[.string key, .string value] 23)) from heap_alloc_new w5 _)
                    have HW6 := Lib.hid (HW5.out.alloc HW5.out.size (.cells #[.string key, .string value] 23))
                    have HL := Lib.hid (fun W => RecL_any ⟨key, value⟩ W HX1.out HX2.out)
                    have HWR := Lib.hid (fun W hW => RecW_any ⟨key, value⟩ W HX1.out HX2.out hW)
                    simp only [Rec.cells] at HL HWR
                    generalize hfq : recFault ⟨key, value⟩ = f at *
                    have HFQ := Lib.hid hfq
                    clear hfq
                    go_wp2_with fail
                    refine (HL.out _).mono ?_
                    rintro e w7 ⟨rfl, hb⟩
                    have HW7 := Lib.hid (HW6.out.trans (hb.mono HW6.out.size))
                    have HKB7 := Lib.hid (HKB.out.on hb)
                    clear hb
                    by_cases hf0 : f = 0
                    · subst hf0
                      rw [recWrite_ok HFQ.out] at HWR
                      obtain ⟨k0, k1, _, _⟩ := HKB7.out.facts
                      have HTX := Lib.hid (HT.out.below (HA0.out.trans (HW7.out.mono HA0.out.size)))
                      generalize recText ⟨key, value⟩ = u at *
                      go_wp2_with fail
                      refine (HWR.out _ HTX.out).mono ?_
                      rintro e w8 ⟨rfl, hb⟩
                      have HW8 := Lib.hid (HW7.out.trans (hb.mono HW7.out.size))
                      have HKB8 := Lib.hid (HKB7.out.on hb)
                      clear hb k0 k1
                      by_cases hu : u = s.extract 0 (m + 1)
                      · have HF := Lib.hid (HE.out.trans (HAK.out trivial hu))
                        have hsq := seq_t hu
                        clear hu
                        obtain ⟨c0, c1, f0, f1⟩ := (HRB.out.on HW8.out).facts
                        obtain ⟨k0, k1, g0, g1⟩ := HKB8.out.facts
                        have hn0 : w.heap.size < w5.heap.size := Nat.lt_of_lt_of_le HRB.out.lt HW5.out.size
                        have hn1 : ¬ w.heap.size = w5.heap.size := by omega
                        have hn2 : ¬ w5.heap.size = w.heap.size := by omega
                        go_wp2_with fail
                        go_region
                        all_goals (go_wp2; (try simp only [Exit.inBlock, Exit.then]))
                        all_goals (refine bodyPost_ret (v := .tuple #[.agg #[.string key, .string value], .string (s.extract (m + 1) s.size), .int .i64 0]) (by rw [results_rec3 rfl]; go_simp) rfl ?_)
                        all_goals (rw [HF.out])
                        all_goals (exact ⟨rfl, (((HA0.out.trans (HW8.out.mono HA0.out.size)).drew).setCell (p := ⟨w.heap.size, 0, none⟩) (Nat.le_refl _) _).setCell (p := ⟨w.heap.size, 1, none⟩) (Nat.le_refl _) _⟩)
                      · have HF := Lib.hid (HE.out.trans (HAO.out trivial hu))
                        have hsq := seq_f hu
                        clear hu
                        go_wp2_with fail
                        refine (RNoL_any 3 _).mono ?_
                        rintro e w9 ⟨rfl, hb⟩
                        have HW9 := Lib.hid (HW8.out.trans (hb.mono HW8.out.size))
                        obtain ⟨c0, c1, f0, f1⟩ := (HRB.out.on HW9.out).facts
                        clear hb
                        go_wp2
                        (try simp only [Exit.inBlock, Exit.then])
                        refine bodyPost_ret (v := .tuple #[.agg #[.string ⟨#[]⟩, .string ⟨#[]⟩], .string ⟨#[]⟩, .int .i64 3]) (by rw [results_rec3 rfl]; go_simp) rfl ?_
                        rw [HF.out]
                        exact ⟨rfl, ((HA0.out.trans (HW9.out.mono HA0.out.size)).setCell (p := ⟨w.heap.size, 0, none⟩) (Nat.le_refl _) _).setCell (p := ⟨w.heap.size, 1, none⟩) (Nat.le_refl _) _⟩
                    · have HF := Lib.hid (HE.out.trans (HAB.out f rfl hf0))
                      go_wp2_with fail
                      refine (RNoL_any f _).mono ?_
                      rintro e w9 ⟨rfl, hb⟩
                      have HW9 := Lib.hid (HW7.out.trans (hb.mono HW7.out.size))
                      obtain ⟨c0, c1, f0, f1⟩ := (HRB.out.on HW9.out).facts
                      clear hb
                      go_wp2
                      (try simp only [Exit.inBlock, Exit.then])
                      refine bodyPost_ret (v := .tuple #[.agg #[.string ⟨#[]⟩, .string ⟨#[]⟩], .string ⟨#[]⟩, .int .i64 f]) (by rw [results_rec3 rfl]; go_simp) rfl ?_
                      rw [HF.out]
                      exact ⟨rfl, ((HA0.out.trans (HW9.out.mono HA0.out.size)).setCell (p := ⟨w.heap.size, 0, none⟩) (Nat.le_refl _) _).setCell (p := ⟨w.heap.size, 1, none⟩) (Nat.le_refl _) _⟩
                · have hq10 : (((byt s m : Nat) : Int) != 10) = true := by rw [bne_iff_ne]; omega
                  have HF := Lib.hid (recOf_end HH.out (by rw [HVN.out]; omega) (.inr (by rw [HVN.out]; exact h10)))
                  go_wp2_with fail
                  refine (RNoL_any 3 _).mono ?_
                  rintro e w9 ⟨rfl, hb⟩
                  have HW9 := Lib.hid (HW4.out.trans (hb.mono HW4.out.size))
                  obtain ⟨c0, c1, f0, f1⟩ := (HRB.out.on HW9.out).facts
                  clear hb
                  go_wp2
                  (try simp only [Exit.inBlock, Exit.then])
                  refine bodyPost_ret (v := .tuple #[.agg #[.string ⟨#[]⟩, .string ⟨#[]⟩], .string ⟨#[]⟩, .int .i64 3]) (by rw [results_rec3 rfl]; go_simp) rfl ?_
                  rw [HF.out]
                  exact ⟨rfl, ((HA0.out.trans (HW9.out.mono HA0.out.size)).setCell (p := ⟨w.heap.size, 0, none⟩) (Nat.le_refl _) _).setCell (p := ⟨w.heap.size, 1, none⟩) (Nat.le_refl _) _⟩
          · have hem := HTN.out hnum
            have HF := Lib.hid (HNX.out (fun h => hnum h.2.2.2.1))
            clear HTY HTN HTR
            go_wp2_with fail
            refine (RNoL_any 3 _).mono ?_
            rintro e w9 ⟨rfl, hb⟩
            have HW9 := Lib.hid (HW3.out.trans (hb.mono HW3.out.size))
            obtain ⟨c0, c1, f0, f1⟩ := (HRB.out.on HW9.out).facts
            clear hb
            go_wp2
            (try simp only [Exit.inBlock, Exit.then])
            refine bodyPost_ret (v := .tuple #[.agg #[.string ⟨#[]⟩, .string ⟨#[]⟩], .string ⟨#[]⟩, .int .i64 3]) (by rw [results_rec3 rfl]; go_simp) rfl ?_
            rw [HF.out]
            exact ⟨rfl, ((HA0.out.trans (HW9.out.mono HA0.out.size)).setCell (p := ⟨w.heap.size, 0, none⟩) (Nat.le_refl _) _).setCell (p := ⟨w.heap.size, 1, none⟩) (Nat.le_refl _) _⟩
end Go.Proofs.YtjmifcddkjcopaaDoor
