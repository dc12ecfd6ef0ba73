/-
  A record as text (P6.2): creelref.RecordText.
-/
import Derived.Test.YtaffgndickdbiaaGreatDoorRecW
import Derived.Deep.RegionHeld3
import Derived.Deep.CutRange
namespace Go.Proofs.YtaffgndickdbiaaGreatDoor
set_option linter.unusedVariables false
open Go.Creel Go.RowKit
theorem recSum (I : ByteArray) (r : Rec) : ((((I ++ ByteArray.mk #[32]) ++ r.key) ++ ⟨#[61]⟩) ++ r.value) ++ ⟨#[10]⟩ = I ++ recTail r := by
  unfold recTail
  simp only [ByteArray.append_assoc]
set_option maxRecDepth 100000 in
set_option maxHeartbeats 2000000 in
theorem RecT_any (r : Rec) (w : World) (hk : r.key.size ≤ maxLen) (hv : r.value.size ≤ maxLen) (hT : Pow10 w) :
    Calls Tryz.prog 112 #[.agg r.cells] w fun e w' => e = .returned (.tuple #[.string (recWrite r).1, .int .i64 (recWrite r).2]) ∧ Below w.heap.size w w' := by
  have HC := Lib.hid (fun W => RecR_any r W hk hv)
  have HT := Lib.hid hT
  clear hT
  have hs := recFault_small (r := r)
  by_cases h0 : recFault r = 0
  · obtain ⟨_, hk1, hv1, _, _⟩ := recFault_ok h0
    have HF := Lib.hid (recWrite_ok h0)
    have hts := recTail_size r
    have HSM := Lib.hid (fun I => recSum I r)
    rw [h0] at HC
    clear h0 hs hk hv
    obtain ⟨key, value⟩ := r
    have HTX := Lib.hid (show recText ⟨key, value⟩ = ofL (Lib.decDigits (recN (recTail ⟨key, value⟩).size)) ++ recTail ⟨key, value⟩ from rfl)
    show Calls Tryz.prog 112 #[.agg #[.string key, .string value]] w _
    simp only [Rec.cells] at HC hts hk1 hv1 HSM
    go_enter Tryz.func112, Tryz.ntmps112
    go_wp2_with fail
    refine (HC.out _).mono ?_
    rintro e w1 ⟨rfl, hb⟩
    have HA0 := Lib.hid ((Below.refl w.heap.size w).alloc (Nat.le_refl _) (Obj.cells #[.string key, .string value] 85))
    obtain ⟨c0, c1⟩ : (w.alloc (Obj.cells #[.string key, .string value] 85)).cell? ⟨w.heap.size, 0, none⟩ = some (.string key) ∧ (w.alloc (Obj.cells #[.string key, .string value] 85)).cell? ⟨w.heap.size, 1, none⟩ = some (.string value) := by constructor <;> simp
    have hsz0 : w.heap.size < (w.alloc (Obj.cells #[.string key, .string value] 85)).heap.size := by simp
    generalize w.alloc (Obj.cells #[.string key, .string value] 85) = W0 at *
    have HZ0 := Lib.hid (And.intro hsz0 (And.intro c0 c1))
    have HB := Lib.hid hb
    clear hb c0 c1 hsz0
    go_wp2
    generalize recTail ⟨key, value⟩ = t at *
    have HFI := Lib.hid (recN_fits (L := t.size) (by omega))
    have HFS := Lib.hid (fun n => recN_first (L := t.size) (n := n) (by omega))
    have HBD := Lib.hid (recN_bd t.size)
    go_loopw [5, 6] (fun v _ wr => ∃ n : Nat, v = .int .i64 n ∧ n ≤ recN t.size ∧ Hid (Below W0.heap.size W0 wr)) (fun v _ _ => 1000 - (intOf v).toNat)
    case atStart => exact ⟨1, rfl, by have := HBD.out; omega, HB⟩
    case round =>
      obtain ⟨n, rfl, hn2, HBR⟩ := hrel
      have hbd := HBD.out
      have hts2 : t.size = key.size + value.size + 3 := hts
      have HI := Lib.hid (fun W (hB : Below W0.heap.size W0 W) => show Calls Tryz.prog 104 #[.int .i64 n] W (fun e w' => e = .returned (.string (ofL (Lib.decDigits n))) ∧ w'.cell? ⟨w.heap.size, 0, none⟩ = some (.string key) ∧ w'.cell? ⟨w.heap.size, 1, none⟩ = some (.string value) ∧ Below W0.heap.size W0 w') from
        (ItoaN_any n W (by omega) (HT.out.below (HA0.out.trans (hB.mono HA0.out.size)))).mono (by
          rintro e w' ⟨rfl, hb⟩
          have hb' := hB.trans (hb.mono hB.size)
          have hc := (bcell hb').1
          exact ⟨rfl, by rw [hc _ _ HZ0.out.1]; exact HZ0.out.2.1, by rw [hc _ _ HZ0.out.1]; exact HZ0.out.2.2, hb'⟩))
      have hsz := ofL_size (Lib.decDigits n)
      have hdl : (Lib.decDigits n).length ≤ 3 := by have := dlen_cases (n := n) (by omega); omega
      have hsm := HSM.out (ofL (Lib.decDigits n))
      have hcr := (bcell HBR.out).1
      have c0 : wr.cell? ⟨w.heap.size, 0, none⟩ = some (.string key) := by rw [hcr _ _ HZ0.out.1]; exact HZ0.out.2.1
      have c1 : wr.cell? ⟨w.heap.size, 1, none⟩ = some (.string value) := by rw [hcr _ _ HZ0.out.1]; exact HZ0.out.2.2
      have hdr := HBR.out.drew
      clear hcr hbd
      go_upto_region 6 with fail
      go_cut [6] from 12 to 29 (fun x wx => x = .string (ofL (Lib.decDigits n) ++ t) ∧ Hid (Below W0.heap.size W0 wx))
      case first =>
        generalize ofL (Lib.decDigits n) = x at *
        generalize (Lib.decDigits n).length = d at *
        have q1 : ¬ 9223372036854775807 < d + 1 := by omega
        have q2 : ¬ 9223372036854775807 < d + 1 + key.size := by omega
        have q3 : ¬ 9223372036854775807 < d + 1 + key.size + 1 := by omega
        have q4 : ¬ 9223372036854775807 < d + 1 + key.size + 1 + value.size := by omega
        have q5 : ¬ 9223372036854775807 < d + 1 + key.size + 1 + value.size + 1 := by omega
        go_region_held3 (fun w' => w'.cell? ⟨w.heap.size, 0, none⟩ = some (.string key) ∧ w'.cell? ⟨w.heap.size, 1, none⟩ = some (.string value) ∧ Below W0.heap.size W0 w') (go_keep)
          (first | (go_at_call 104; refine (HI.out _ ?_).mono ?_; (simp [*]); rintro e w3 ⟨rfl, hc0, hc1, hb3⟩))
        go_wp2_with fail
        go_meet
        exact ⟨rfl, Lib.hid hb3⟩
      case rest =>
        obtain ⟨rfl, HBC⟩ := hcut
        have hxs : (ofL (Lib.decDigits n) ++ t).size = (Lib.decDigits n).length + (key.size + value.size + 3) := by rw [ByteArray.size_append, hsz, hts]
        clear c0 c1 hdr HI
        by_cases hd : n = t.size + (Lib.decDigits n).length
        · have hn : n = recN t.size := by
            rcases Nat.lt_or_ge n (recN t.size) with h | h
            · exact absurd hd (HFS.out n h)
            · omega
          have HR := Lib.hid (show recWrite ⟨key, value⟩ = (ofL (Lib.decDigits n) ++ t, 0) by rw [HF.out, HTX.out, hn])
          generalize ofL (Lib.decDigits n) ++ t = x at *
          generalize (Lib.decDigits n).length = d at *
          clear hn HFI HFS HTX HF hsm HSM hsz
          have hxn : x.size = n := by omega
          go_wp2
          go_ret2
          exact ⟨ret_si HR.out, HA0.out.trans (HBC.out.mono HA0.out.size)⟩
        · have hn : n < recN t.size := by
            have hne : n ≠ recN t.size := by intro e; exact hd (by rw [e]; exact HFI.out)
            omega
          generalize ofL (Lib.decDigits n) ++ t = x at *
          generalize (Lib.decDigits n).length = d at *
          have hd2 : ¬ x.size = n := by omega
          clear HFI HFS HTX HF hsm HSM hsz
          have hbd := HBD.out
          go_wp2
          go_roundw
          · exact ⟨n + 1, by simp, by omega, HBC⟩
          · simp only [intOf]; omega
  · have HF := Lib.hid (recWrite_bad h0)
    clear hk hv
    generalize recFault r = f at *
    obtain ⟨key, value⟩ := r
    show Calls Tryz.prog 112 #[.agg #[.string key, .string value]] w _
    simp only [Rec.cells] at HC
    go_enter Tryz.func112, Tryz.ntmps112
    go_wp2_with fail
    refine (HC.out _).mono ?_
    rintro e w1 ⟨rfl, hb⟩
    have HB := Lib.hid (((Below.refl _ _).alloc (Nat.le_refl _) _).trans (hb.mono (by simp)))
    clear hb
    go_wp2
    go_ret2
    exact ⟨ret_si HF.out, HB.out⟩
end Go.Proofs.YtaffgndickdbiaaGreatDoor
