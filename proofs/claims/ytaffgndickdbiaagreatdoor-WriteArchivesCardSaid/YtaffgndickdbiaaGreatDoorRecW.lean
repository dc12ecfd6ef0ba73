/-
  A record as text (P6.2): record.Write and creelref.RecordText.
-/
import Derived.Test.YtaffgndickdbiaaGreatDoorRec
import Derived.Test.YtaffgndickdbiaaGreatDoorRecMath
import Derived.Test.YtaffgndickdbiaaGreatDoorItoa
namespace Go.Creel
set_option linter.unusedVariables false
def recTail (r : Rec) : ByteArray := (((ByteArray.mk #[32] ++ r.key) ++ ⟨#[61]⟩) ++ r.value) ++ ⟨#[10]⟩
def recText (r : Rec) : ByteArray := ofL (Lib.decDigits (recN (recTail r).size)) ++ recTail r
def recWrite (r : Rec) : ByteArray × Int := if recFault r = 0 then (recText r, 0) else (ByteArray.empty, recFault r)
theorem recWrite_bad {r : Rec} (h : recFault r ≠ 0) : recWrite r = (ByteArray.empty, recFault r) := by unfold recWrite; rw [if_neg h]
theorem recWrite_ok {r : Rec} (h : recFault r = 0) : recWrite r = (recText r, 0) := by unfold recWrite; rw [if_pos h]
theorem recTail_size (r : Rec) : (recTail r).size = r.key.size + r.value.size + 3 := by
  unfold recTail
  simp only [ByteArray.size_append]
  show 1 + r.key.size + 1 + r.value.size + 1 = _
  omega
theorem recFault_small {r : Rec} : recFault r = 0 ∨ recFault r = 1 ∨ recFault r = 3 := by
  unfold recFault
  by_cases h : r.key.size < 1 ∨ 60 < r.key.size ∨ 500 < r.value.size
  · rw [if_pos h]; exact .inr (.inl rfl)
  · rw [if_neg h]; split <;> simp
end Go.Creel
namespace Go.Proofs.YtaffgndickdbiaaGreatDoor
set_option linter.unusedVariables false
open Go.Creel Go.RowKit
theorem ItoaN_any (n : Nat) (w : World) (hn : n ≤ 1000000) (hT : Pow10 w) :
    Calls Tryz.prog 104 #[.int .i64 n] w fun e w' => e = .returned (.string (ofL (Lib.decDigits n))) ∧ Below w.heap.size w w' := by
  have := Itoa_any n w (by constructor <;> omega) hT
  rw [itoa_nat] at this
  exact this
set_option maxRecDepth 100000 in
set_option maxHeartbeats 1000000 in
theorem RecW_any (r : Rec) (w : World) (hk : r.key.size ≤ maxLen) (hv : r.value.size ≤ maxLen) (hT : Pow10 w) :
    Calls Tryz.prog 92 #[.agg r.cells] w fun e w' => e = .returned (.tuple #[.string (recWrite r).1, .int .i64 (recWrite r).2]) ∧ Below w.heap.size w w' := by
  have HC := Lib.hid (fun W => RecL_any r W hk hv)
  have HT := Lib.hid hT
  clear hT
  have hs := recFault_small (r := r)
  by_cases h0 : recFault r = 0
  · obtain ⟨_, hk1, hv1, _, _⟩ := recFault_ok h0
    have HF := Lib.hid (recWrite_ok h0)
    have hts := recTail_size r
    rw [h0] at HC
    clear h0 hs hk hv
    obtain ⟨key, value⟩ := r
    have HTX := Lib.hid (show recText ⟨key, value⟩ = ofL (Lib.decDigits (recN (recTail ⟨key, value⟩).size)) ++ recTail ⟨key, value⟩ from rfl)
    have htt : (((ByteArray.mk #[32] ++ key) ++ ⟨#[61]⟩) ++ value) ++ ⟨#[10]⟩ = recTail ⟨key, value⟩ := rfl
    show Calls Tryz.prog 92 #[.agg #[.string key, .string value]] w _
    simp only [Rec.cells] at HC hts hk1 hv1
    go_enter Tryz.func92, Tryz.ntmps92
    go_wp2_with fail
    refine (HC.out _).mono ?_
    rintro e w1 ⟨rfl, hb⟩
    have HB := Lib.hid (((Below.refl _ _).alloc (Nat.le_refl _) _).trans (hb.mono (by simp)))
    obtain ⟨hc, _⟩ := bcell hb
    clear hb
    go_wp2
    generalize recTail ⟨key, value⟩ = t at *
    have HFI := Lib.hid (recN_fits (L := t.size) (by omega))
    have HFS := Lib.hid (fun n => recN_first (L := t.size) (n := n) (by omega))
    have HBD := Lib.hid (recN_bd t.size)
    go_loopw [6] (fun v wr => ∃ n : Nat, v = .int .i64 n ∧ t.size + 1 ≤ n ∧ n ≤ recN t.size ∧ Hid (Below w.heap.size w wr)) (fun v _ => 1000 - (intOf v).toNat)
    case atStart => exact ⟨t.size + 1, by simp [hts], by omega, by have := HBD.out; omega, HB⟩
    case round =>
      obtain ⟨n, rfl, hn1, hn2, HBR⟩ := hrel
      have hbd := HBD.out
      have HI := Lib.hid (ItoaN_any n wr (by omega) (HT.out.below HBR.out))
      have hsz := ofL_size (Lib.decDigits n)
      have hdl : (Lib.decDigits n).length ≤ 3 := by have := dlen_cases (n := n) (by omega); omega
      have hts2 : t.size = key.size + value.size + 3 := hts
      by_cases hd : n = t.size + (Lib.decDigits n).length
      · have hn : n = recN t.size := by
          rcases Nat.lt_or_ge n (recN t.size) with h | h
          · exact absurd hd (HFS.out n h)
          · omega
        have HR := Lib.hid (show recWrite ⟨key, value⟩ = (ofL (Lib.decDigits n) ++ t, 0) by rw [HF.out, HTX.out, hn])
        have HI2 := Lib.hid (fun (m : Int) W (hm : m = n) hW => by have := ItoaN_any n W (by omega) hW; rw [← hm] at this; exact this)
        generalize ofL (Lib.decDigits n) = x at *
        generalize (Lib.decDigits n).length = d at *
        clear hn HFI HFS HTX HF htt
        go_wp2_with fail
        refine (HI2.out _ _ (by omega) (HT.out.below HBR.out)).mono ?_
        rintro e w3 ⟨rfl, hb⟩
        have HB3 := Lib.hid (HBR.out.trans (hb.mono HBR.out.size))
        clear hb
        go_wp2_with fail
        refine (HI2.out _ _ (by omega) (HT.out.below HB3.out)).mono ?_
        rintro e w4 ⟨rfl, hb⟩
        have HB4 := Lib.hid (HB3.out.trans (hb.mono HB3.out.size))
        clear hb
        go_wp2
        go_ret2
        exact ⟨ret_si HR.out, HB4.out⟩
      · have hn : n < recN t.size := by
          have hne : n ≠ recN t.size := by intro e; exact hd (by rw [e]; exact HFI.out)
          omega
        generalize ofL (Lib.decDigits n) = x at *
        generalize (Lib.decDigits n).length = d at *
        have hd2 : ¬ n = key.size + value.size + 3 + d := by omega
        clear HFI HFS HTX HF htt
        go_wp2_with fail
        refine HI.out.mono ?_
        rintro e w3 ⟨rfl, hb⟩
        have HB3 := Lib.hid (HBR.out.trans (hb.mono HBR.out.size))
        clear hb
        go_wp2
        go_roundw
        · exact ⟨n + 1, by simp, by omega, by omega, HB3⟩
        · simp only [intOf]; omega
  · have HF := Lib.hid (recWrite_bad h0)
    clear hk hv
    generalize recFault r = f at *
    obtain ⟨key, value⟩ := r
    show Calls Tryz.prog 92 #[.agg #[.string key, .string value]] w _
    simp only [Rec.cells] at HC
    go_enter Tryz.func92, Tryz.ntmps92
    go_wp2_with fail
    refine (HC.out _).mono ?_
    rintro e w1 ⟨rfl, hb⟩
    have HB := Lib.hid (((Below.refl _ _).alloc (Nat.le_refl _) _).trans (hb.mono (by simp)))
    clear hb
    go_wp2
    go_ret2
    exact ⟨ret_si HF.out, HB.out⟩
end Go.Proofs.YtaffgndickdbiaaGreatDoor
