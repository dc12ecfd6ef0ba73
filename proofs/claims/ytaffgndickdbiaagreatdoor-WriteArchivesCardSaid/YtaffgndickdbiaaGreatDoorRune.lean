/-
  strings.IndexRune of "=\n" at a rune that is no byte below 128: it is not there.
-/
import Derived.Test.YtaffgndickdbiaaGreatDoorText
import Derived.Test.YtaffgndickdbiaaGreatDoorShelf
import Derived.Laws.RangeAny
import Derived.Laws.Runes
import Derived.WalkMore
import Derived.Scope
import Derived.Deep.LoopGhost
import Derived.Lib.OthersKept
import Derived.StillTailTactics
namespace Go.Creel
set_option linter.unusedVariables false
set_option linter.unusedSimpArgs false
open Go.RowKit
theorem valid_of {r : Int} (h : Lib.validRune r = true) : Utf8.valid r = true := by
  unfold Lib.validRune at h
  unfold Utf8.valid
  simp at h ⊢
  omega
theorem get_byt! (s : ByteArray) (k : Nat) (h : k < s.size) : (s.get! k).toNat = byt s k := by
  rw [← byt_get s k h]
  simp [ByteArray.get!, getElem!_pos, h]
  rfl
theorem decode_skips (s : ByteArray) (pos : Nat) : ∀ k, 1 ≤ k → k < (Utf8.decode s pos).2 → pos + k < s.size ∧ 128 ≤ byt s (pos + k) := by
  have key : ∀ k, 1 ≤ k → k < (Utf8.decode s pos).2 → pos + k < s.size ∧ 128 ≤ (s.get! (pos + k)).toNat := by
    simp only [Utf8.decode]
    repeat' split
    all_goals
      intro k h1 h2
      simp only at h2
      have hk : k = 1 ∨ k = 2 ∨ k = 3 := by omega
      rcases hk with rfl | rfl | rfl <;> simp_all <;> omega
  intro k h1 h2
  obtain ⟨h3, h4⟩ := key k h1 h2
  exact ⟨h3, by rw [← get_byt! s _ h3]; exact h4⟩
def keyBad (s : ByteArray) : Bool := hasB s 61 || hasB s 10
theorem keyBad_yes {s : ByteArray} {k : Nat} (h : k < s.size) (e : byt s k = 61 ∨ byt s k = 10) : keyBad s = true := by
  unfold keyBad
  rcases e with e | e
  · rw [hasB_true h (c := 61) e]; rfl
  · rw [hasB_true h (c := 10) e, Bool.or_true]
theorem keyBad_no {s : ByteArray} (h : ∀ k, k < s.size → byt s k ≠ 61 ∧ byt s k ≠ 10) : keyBad s = false := by
  unfold keyBad
  rw [hasB_false (c := 61) (fun k hk => (h k hk).1), hasB_false (c := 10) (fun k hk => (h k hk).2)]; rfl
/-- an index that is there just if a sign is -/
def RetIdx (w : World) (b : Bool) (e : Ending) (w' : World) : Prop := ∃ m : Int, e = .returned (.int .i64 m) ∧ decide (0 ≤ m) = b ∧ Below w.heap.size w w'
end Go.Creel
namespace Go.Proofs.YtaffgndickdbiaaGreatDoor
set_option linter.unusedVariables false
set_option linter.unusedSimpArgs false
open Go.Creel Go.RowKit
set_option maxRecDepth 100000 in
set_option maxHeartbeats 1000000 in
theorem Rune_bad (r : Int) (w : World) (h0 : 128 ≤ r) (h1 : r ≤ 2147483647) (he : r ≠ 65533) (hv : Lib.validRune r = false) :
    Calls Tryz.prog 233 #[.string ⟨#[61, 10]⟩, .int .i32 r] w fun e w' => e = .returned (.int .i64 (-1)) ∧ w = w' := by
  have q0 : ¬ r < 128 := by omega
  have q1 : (r == 65533) = false := by rw [beq_eq_false_iff_ne]; exact he
  have HV := Lib.hid hv
  clear hv he
  go_enter Tryz.func233, Tryz.ntmps233
  go_wp2_with (go_at_call 246; refine (Tryz.utf8_ValidRune _ _).mono ?_; rintro e w' ⟨rfl, hw⟩; rw [hw, HV.out])
  go_ret
  exact ⟨rfl, rfl⟩
set_option maxRecDepth 100000 in
set_option maxHeartbeats 1000000 in
theorem Rune_long (r : Int) (w : World) (h0 : 128 ≤ r) (h1 : r ≤ 2147483647) (he : r ≠ 65533) (hv : Lib.validRune r = true) (e : ByteArray) (hE : Utf8.encode r = e) (h2 : 3 ≤ e.size) (h4 : e.size ≤ 4) :
    Calls Tryz.prog 233 #[.string ⟨#[61, 10]⟩, .int .i32 r] w fun e w' => e = .returned (.int .i64 (-1)) ∧ w = w' := by
  have q0 : ¬ r < 128 := by omega
  have q1 : (r == 65533) = false := by rw [beq_eq_false_iff_ne]; exact he
  have HV := Lib.hid hv
  have q2 : ¬ ((e.size : Int) - 1 < 2) := by omega
  clear hv he
  go_enter Tryz.func233, Tryz.ntmps233
  go_wp2_with (go_at_call 246; refine (Tryz.utf8_ValidRune _ _).mono ?_; rintro e w' ⟨rfl, hw⟩; rw [hw, HV.out])
  go_step3
  go_wp2
  go_loop [9, 10, 11, 12] (fun v9 v10 _ _ => v9 = .int .i64 (e.size - 1) ∧ v10 = .int .i64 0) (fun _ _ _ _ => 0)
  case atStart => exact ⟨rfl, rfl⟩
  case round =>
    obtain ⟨rfl, rfl⟩ := hrel
    go_wp2
    first | rw [Exit.noGoto_ret] | skip
    go_ret
    exact ⟨rfl, rfl⟩
set_option maxRecDepth 100000 in
set_option maxHeartbeats 1000000 in
theorem Rune_two (r : Int) (w : World) (h0 : 128 ≤ r) (h1 : r ≤ 2147483647) (he : r ≠ 65533) (hv : Lib.validRune r = true) (a b : UInt8) (hE : Utf8.encode r = ⟨#[a, b]⟩) (hb : 128 ≤ b.toNat) :
    Calls Tryz.prog 233 #[.string ⟨#[61, 10]⟩, .int .i32 r] w fun e w' => e = .returned (.int .i64 (-1)) ∧ Below w.heap.size w w' := by
  have q0 : ¬ r < 128 := by omega
  have q1 : (r == 65533) = false := by rw [beq_eq_false_iff_ne]; exact he
  have HV := Lib.hid hv
  have q2 : ((10 : Int) == (b.toNat : Int)) = false := by rw [beq_eq_false_iff_ne]; omega
  have q3 : ((10 : Int) != (b.toNat : Int)) = true := by rw [bne, q2]; rfl
  have q4 : ((((ByteArray.mk #[61, 10])[1]'(by decide)).toNat : Int) != (((ByteArray.mk #[a, b])[1]'(show 1 < 2 by omega)).toNat : Int)) = true := q3
  have hsz : (ByteArray.mk #[a, b]).size = 2 := rfl
  clear hv he
  go_enter Tryz.func233, Tryz.ntmps233
  go_wp2_with (go_at_call 246; refine (Tryz.utf8_ValidRune _ _).mono ?_; rintro e w' ⟨rfl, hw⟩; rw [hw, HV.out])
  go_step3
  go_wp2
  go_loop [9, 10, 11, 12] (fun v9 v10 _ _ => v9 = .int .i64 1 ∧ v10 = .int .i64 0) (fun _ _ _ _ => 0)
  case atStart => exact ⟨rfl, rfl⟩
  case round =>
    obtain ⟨rfl, rfl⟩ := hrel
    go_wp2
    go_step3
    go_wp2
    go_quiet (fail)
    go_wp2
    have hw2 : IntKind.i64.wrap ((1 : Int) + 1) = 2 := rfl
    have hw3 : IntKind.i64.wrap (2 : Int) = 2 := rfl
    have hsl : ∀ w, (Instr.slice 9 (.string ⟨#[61, 10]⟩) (some (.int .i64 2)) none none).run Tryz.prog w = .ok (.string ⟨#[]⟩) w := fun w => by kernel_rfl
    have hsl2 : ∀ w, (Instr.sliceAt 9 (.string ⟨#[61, 10]⟩) (some (.int .i64 2)) none none).run Tryz.prog w = .ok (.string ⟨#[]⟩) w := fun w => by kernel_rfl
    go_still_tail 7, (by kernel_rfl)
    go_wp2_with fail
    refine (IndexByte_any _ _ _).mono ?_
    rintro e w' ⟨rfl, rfl⟩
    rw [show firstIdx (ByteArray.mk #[]) ((((ByteArray.mk #[a, b])[1]'(show 1 < 2 by omega)).toNat : Int).toNat.toUInt8) = -1 from rfl]
    go_wp2
    rw [Exit.noGoto_ret]
    go_wp2
    first | rw [Exit.noGoto_ret] | skip
    go_ret
    exact ⟨rfl, rfl, rfl, rfl, Nat.le_refl _, fun _ _ => rfl⟩
set_option maxRecDepth 100000 in
set_option maxHeartbeats 1000000 in
theorem Rune_err (w : World) :
    Calls Tryz.prog 233 #[.string ⟨#[61, 10]⟩, .int .i32 65533] w fun e w' => e = .returned (.int .i64 (-1)) ∧ Below w.heap.size w w' := by
  go_enter Tryz.func233, Tryz.ntmps233
  go_wp2
  obtain ⟨s, hs⟩ : ∃ s : ByteArray, s = ⟨#[61, 10]⟩ := ⟨_, rfl⟩
  rw [← hs]
  have hsz : s.size = 2 := by rw [hs]; rfl
  have HX := Lib.hid (show ∀ k (h : k < s.size), (s[k]'h).toNat < 128 from by
    subst hs
    intro k h
    have : k = 0 ∨ k = 1 := by have : (ByteArray.mk #[61, 10]).size = 2 := rfl; omega
    rcases this with rfl | rfl
    · show (61 : UInt8).toNat < 128; decide
    · show (10 : UInt8).toNat < 128; decide)
  clear hs
  go_loopg [5, 6] 2 (fun g _ _ wx => ∃ i : Nat, i + g = 2 ∧ wx = w.iter s i)
  case atStart => exact ⟨0, by omega, rfl⟩
  case round =>
    obtain ⟨i, hig, rfl⟩ := hrel
    cases gk with
    | zero =>
      obtain rfl : i = 2 := by omega
      have hnx := run_next_end (P := Tryz.prog) w s 2
      go_wp2
      go_ret
      exact ⟨rfl, (Below.refl _ _).alloc (Nat.le_refl _) _⟩
    | succ g =>
      have hi : i < s.size := by omega
      have hx := HX.out i hi
      have hnx := fun ty => run_next_ascii (P := Tryz.prog) w s i ty hi hx
      have hne : (((s[i]'hi).toNat : Int) == 65533) = false := by rw [beq_eq_false_iff_ne]; omega
      go_wp2
      go_roundg g
      case measure => omega
      case rel => exact ⟨i + 1, by omega, rfl⟩
set_option maxRecDepth 100000 in
set_option maxHeartbeats 1000000 in
theorem Rune_asc (r : Int) (w : World) (h0 : 0 ≤ r) (h1 : r < 128) :
    Calls Tryz.prog 233 #[.string ⟨#[61, 10]⟩, .int .i32 r] w fun e w' => e = .returned (.int .i64 (firstIdx ⟨#[61, 10]⟩ r.toNat.toUInt8)) ∧ Below w.heap.size w w' := by
  have HI := Lib.hid (fun w => IndexByte_any ⟨#[61, 10]⟩ r w)
  go_enter Tryz.func233, Tryz.ntmps233
  go_wp2_with fail
  refine (HI.out _).mono ?_
  rintro e w' ⟨rfl, rfl⟩
  go_wp2
  go_ret
  exact ⟨rfl, Below.refl _ _⟩
/-- a rune that is no byte below 128 is not there -/
theorem Rune_high (r : Int) (w : World) (h0 : 128 ≤ r) (h1 : r ≤ 2147483647) :
    Calls Tryz.prog 233 #[.string ⟨#[61, 10]⟩, .int .i32 r] w fun e w' => e = .returned (.int .i64 (-1)) ∧ Below w.heap.size w w' := by
  by_cases he : r = 65533
  · subst he; exact Rune_err w
  · cases hv : Lib.validRune r with
    | false => exact (Rune_bad r w h0 h1 he hv).mono fun e w' ⟨a, b⟩ => ⟨a, by rw [← b]; exact Below.refl _ _⟩
    | true =>
      obtain ⟨e1, e2, e3⟩ := encode_facts r (valid_of hv) h0
      by_cases h3 : 3 ≤ (Utf8.encode r).size
      · exact (Rune_long r w h0 h1 he hv _ rfl h3 e2).mono fun e w' ⟨a, b⟩ => ⟨a, by rw [← b]; exact Below.refl _ _⟩
      · have h2 : (Utf8.encode r).data.toList.length = 2 := by rw [← Lib.size_eq]; omega
        obtain ⟨a, b, hab⟩ : ∃ a b, (Utf8.encode r).data.toList = [a, b] := by
          match hl : (Utf8.encode r).data.toList, h2 with
          | [a, b], _ => exact ⟨a, b, rfl⟩
        have hE : Utf8.encode r = ⟨#[a, b]⟩ := ext_bytes (by rw [hab])
        refine Rune_two r w h0 h1 he hv a b hE ?_
        have := e3 (by omega)
        simp only [hE] at this
        exact this
end Go.Proofs.YtaffgndickdbiaaGreatDoor
