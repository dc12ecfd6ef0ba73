/-
  strings.ContainsAny of a text and "=\n": of any bytes.
-/
import Derived.Test.YtaffgndickdbiaaGreatDoorRune
namespace Go.Creel
set_option linter.unusedVariables false
set_option linter.unusedSimpArgs false
open Go.RowKit
theorem below_iterAt {B k q : Nat} {w wr : World} {s : ByteArray} (h : Below B w wr) (hk : B ≤ k) : Below B w (wr.iterAt k s q) := by
  refine ⟨h.os, h.tape, h.output, by simp [World.iterAt]; exact h.size, fun b hb => ?_⟩
  have : (wr.iterAt k s q).heap[b]? = wr.heap[b]? := by
    simp only [World.iterAt]
    rw [Array.getElem?_setIfInBounds_ne (by omega)]
  rw [this]; exact h.block b hb
/-- no sign ahead of place p -/
def NoSign (s : ByteArray) (p : Nat) : Prop := p ≤ s.size ∧ ∀ j, j < p → byt s j ≠ 61 ∧ byt s j ≠ 10
theorem NoSign.next {s : ByteArray} {p : Nat} (h : NoSign s p) (hp : p < s.size) (hx : byt s p ≠ 61 ∧ byt s p ≠ 10) : p < p + (Utf8.decode s p).2 ∧ NoSign s (p + (Utf8.decode s p).2) := by
  have hn : 1 ≤ (Utf8.decode s p).2 := by
    by_cases h128 : (s[p]'hp).toNat < 128
    · rw [decode_ascii s p hp h128]; exact Nat.le_refl _
    · exact (decode_high s p hp (by omega)).2
  have hsk := decode_skips s p
  generalize (Utf8.decode s p).2 = n at *
  refine ⟨by omega, ?_, fun j hj => ?_⟩
  · by_cases h1 : n = 1
    · omega
    · have := (hsk (n - 1) (by omega) (by omega)).1; omega
  · rcases Nat.lt_trichotomy j p with e | e | e
    · exact h.2 j e
    · rw [e]; exact hx
    · obtain ⟨k, rfl⟩ : ∃ k, j = p + k := ⟨j - p, by omega⟩
      have := (hsk k (by omega) (by omega)).2
      omega
end Go.Creel
namespace Go.Proofs.YtaffgndickdbiaaGreatDoor
set_option linter.unusedVariables false
set_option linter.unusedSimpArgs false
open Go.Creel Go.RowKit
theorem ascii_idx {x : Nat} (hx : x < 128) : decide (0 ≤ firstIdx ⟨#[61, 10]⟩ ((x : Int).toNat.toUInt8)) = (decide (x = 61) || decide (x = 10)) := by
  rw [idx_has]
  unfold hasB
  have e : ((x : Int).toNat.toUInt8).toNat = x := by simp; omega
  have key : ∀ c : UInt8, (c == (x : Int).toNat.toUInt8) = decide (x = c.toNat) := by
    intro c
    rw [Bool.eq_iff_iff, beq_iff_eq, decide_eq_true_eq]
    constructor
    · intro h; rw [h, e]
    · intro h; exact UInt8.toNat_inj.1 (by rw [e]; exact h.symm)
  simp only [List.any_cons, List.any_nil, key, Bool.or_false]
  rfl
theorem UseSet_any (n : Int) (w : World) :
    Calls Tryz.prog 237 #[.int .i64 n] w fun e w' => e = .returned (.bool (decide (8 < n))) ∧ w = w' := by
  go_enter Tryz.func237, Tryz.ntmps237
  go_wp2
  go_ret
  exact ⟨rfl, rfl⟩
set_option maxRecDepth 100000 in
set_option maxHeartbeats 2000000 in
theorem IndexAny_short (s : ByteArray) (w : World) (h8 : s.size ≤ 8) :
    Calls Tryz.prog 222 #[.string s, .string ⟨#[61, 10]⟩] w (RetIdx w (keyBad s)) := by
  have h8z : decide ((8 : Int) < (s.size : Int)) = false := decide_eq_false (by omega)
  have HYES := Lib.hid (fun k hk e => keyBad_yes (s := s) (k := k) hk e)
  have HNO := Lib.hid (keyBad_no (s := s))
  go_enter Tryz.func222, Tryz.ntmps222
  go_wp2_with (go_at_call 237; refine (UseSet_any _ _).mono ?_; rintro e w' ⟨rfl, rfl⟩; rw [h8z])
  go_loopg [9, 10] s.size (fun g _ _ wx => ∃ p : Nat, s.size ≤ p + g ∧ Hid (wx.heap[w.heap.size]? = some (.stringIter s p)) ∧ Hid (Below w.heap.size w wx) ∧ Hid (NoSign s p))
  case atStart => exact ⟨0, by omega, Lib.hid (World.iter_heap w s 0), Lib.hid ((Below.refl _ _).alloc (Nat.le_refl _) _), Lib.hid ⟨by omega, fun j hj => absurd hj (by omega)⟩⟩
  case round =>
    obtain ⟨p, hpg, HIT, HB, HS⟩ := hrel
    by_cases hlt : p < s.size
    · obtain ⟨g, rfl⟩ : ∃ g, gk = g + 1 := ⟨gk - 1, by omega⟩
      have hnx : ∀ ty, (Instr.next (.pointer (some ⟨w.heap.size, 0, none⟩)) true ty).run Tryz.prog wr = _ := fun ty => Lib.run_next_any_at wr w.heap.size s p ty HIT.out hlt
      have HNX := Lib.hid (fun hx => HS.out.next hlt hx)
      have HHIT := Lib.hid (fun e => HYES.out p hlt e)
      have HI2 := Lib.hid (fun q => Lib.iterAt_heap wr w.heap.size s p q HIT.out)
      have HB2 := Lib.hid (fun q => below_iterAt (q := q) (s := s) HB.out (Nat.le_refl _))
      by_cases h128 : (s[p]'hlt).toNat < 128
      · have hdec := decode_ascii s p hlt h128
        have hby := byt_get s p hlt
        rw [hdec] at hnx HNX
        rw [hby] at hnx h128
        have HR := Lib.hid (fun w => Rune_asc ((byt s p : Nat) : Int) w (by omega) (by omega))
        have HAI := Lib.hid (ascii_idx h128)
        clear hdec hby HIT
        generalize byt s p = x at *
        generalize firstIdx ⟨#[61, 10]⟩ ((x : Int).toNat.toUInt8) = m at *
        simp only at hnx HNX
        go_wp2_with fail
        refine (HR.out _).mono ?_
        rintro e w3 ⟨rfl, hb⟩
        have HB3 := Lib.hid ((HB2.out _).trans (hb.mono (HB2.out _).size))
        have HI3 := Lib.hid ((hb.block w.heap.size (Array.getElem?_eq_some_iff.1 (HI2.out (p + 1))).1).trans (HI2.out (p + 1)))
        clear hb hnx
        by_cases hx : x = 61 ∨ x = 10
        · have HK := Lib.hid (HHIT.out hx)
          have hd : decide (0 ≤ m) = true := by rw [HAI.out]; simpa using hx
          clear hx
          go_wp2
          go_ret
          exact ⟨_, rfl, by rw [HK.out]; simp, HB3.out⟩
        · have HN := Lib.hid (HNX.out ⟨fun e => hx (.inl e), fun e => hx (.inr e)⟩)
          have hd : decide (0 ≤ m) = false := by rw [HAI.out]; simpa using hx
          clear hx
          go_wp2
          go_roundg g
          case measure => omega
          case rel => exact ⟨p + 1, by omega, HI3, HB3, Lib.hid HN.out.2⟩
      · obtain ⟨hr1, hr2⟩ := decode_high s p hlt (by omega)
        have hr3 := decode_le s p
        have hby := byt_get s p hlt
        have HN := Lib.hid (HNX.out (by rw [← hby]; omega))
        have HR := Lib.hid (fun w => Rune_high (((Utf8.decode s p).1 : Nat) : Int) w (by omega) (by omega))
        clear hby HIT HNX HHIT
        generalize Utf8.decode s p = d at *
        obtain ⟨d1, d2⟩ := d
        simp only at hnx HN hr1 hr2 hr3 HR
        have hpd : s.size ≤ p + d2 + g := by omega
        go_wp2_with fail
        refine (HR.out _).mono ?_
        rintro e w3 ⟨rfl, hb⟩
        have HB3 := Lib.hid ((HB2.out _).trans (hb.mono (HB2.out _).size))
        have HI3 := Lib.hid ((hb.block w.heap.size (Array.getElem?_eq_some_iff.1 (HI2.out (p + d2))).1).trans (HI2.out (p + d2)))
        clear hb hnx
        go_wp2
        go_roundg g
        case measure => omega
        case rel => exact ⟨p + d2, by omega, HI3, HB3, Lib.hid HN.out.2⟩
    · have HK := Lib.hid (HNO.out (fun k hk => HS.out.2 k (by omega)))
      have hnx : ∀ ty, (Instr.next (.pointer (some ⟨w.heap.size, 0, none⟩)) true ty).run Tryz.prog wr = _ := fun ty => Lib.run_next_end_at wr w.heap.size s p ty HIT.out hlt
      go_wp2
      go_ret
      exact ⟨_, rfl, by rw [HK.out]; rfl, HB.out⟩
end Go.Proofs.YtaffgndickdbiaaGreatDoor
