/-
  Texts: Rune, IndexAny, IndexAnyL, Rec, RecMath.
-/
import Derived.Test.YtaffgndickdbiaaGreatDoorR01
import Derived.Test.YtaffgndickdbiaaGreatDoorR03
import Derived.Laws.RangeAny
import Derived.Laws.Runes
import Derived.WalkMore
import Derived.Scope
import Derived.Deep.LoopGhost
import Derived.Lib.OthersKept
import Derived.StillTailTactics
import Derived.Lib.ItoaNum
set_option linter.unusedVariables false
set_option linter.unusedSimpArgs false
set_option linter.unusedSectionVars false
namespace Go.Creel
open Go.RowKit
theorem valid_of {r : Int} (h : Lib.validRune r = true) : Utf8.valid r = true := by
  unfold Lib.validRune at h
  unfold Utf8.valid
  simp at h ⊢
  omega
theorem get_byt! (s : ByteArray) (k : Nat) (h : k < s.size) : (s.get! k).toNat = byt s k := by
  rw [← byt_get s k h]
  simp [ByteArray.get!, getElem!_pos, h]
  rfl
theorem decode_skips (s : ByteArray) (pos : Nat) : ∀ k, 1 ≤ k → k < (Utf8.decode s pos).2 → pos + k < s.size ∧ 128 ≤ byt s (pos + k) := by
  have key : ∀ k, 1 ≤ k → k < (Utf8.decode s pos).2 → pos + k < s.size ∧ 128 ≤ (s.get! (pos + k)).toNat := by
    simp only [Utf8.decode]
    repeat' split
    all_goals
      intro k h1 h2
      simp only at h2
      have hk : k = 1 ∨ k = 2 ∨ k = 3 := by omega
      rcases hk with rfl | rfl | rfl <;> simp_all <;> omega
  intro k h1 h2
  obtain ⟨h3, h4⟩ := key k h1 h2
  exact ⟨h3, by rw [← get_byt! s _ h3]; exact h4⟩
def keyBad (s : ByteArray) : Bool := hasB s 61 || hasB s 10
theorem keyBad_yes {s : ByteArray} {k : Nat} (h : k < s.size) (e : byt s k = 61 ∨ byt s k = 10) : keyBad s = true := by
  unfold keyBad
  rcases e with e | e
  · rw [hasB_true h (c := 61) e]; rfl
  · rw [hasB_true h (c := 10) e, Bool.or_true]
theorem keyBad_no {s : ByteArray} (h : ∀ k, k < s.size → byt s k ≠ 61 ∧ byt s k ≠ 10) : keyBad s = false := by
  unfold keyBad
  rw [hasB_false (c := 61) (fun k hk => (h k hk).1), hasB_false (c := 10) (fun k hk => (h k hk).2)]; rfl
def RetIdx (w : World) (b : Bool) (e : Ending) (w' : World) : Prop := ∃ m : Int, e = .returned (.int .i64 m) ∧ decide (0 ≤ m) = b ∧ Below w.heap.size w w'
end Go.Creel
namespace Go.Proofs.YtaffgndickdbiaaGreatDoor
open Go.Creel Go.RowKit
set_option maxRecDepth 100000 in
set_option maxHeartbeats 1000000 in
theorem Rune_bad (r : Int) (w : World) (h0 : 128 ≤ r) (h1 : r ≤ 2147483647) (he : r ≠ 65533) (hv : Lib.validRune r = false) :
    Calls Tryz.prog 233 #[.string ⟨#[61, 10]⟩, .int .i32 r] w fun e w' => e = .returned (.int .i64 (-1)) ∧ w = w' := by
  have q0 : ¬ r < 128 := by omega
  have q1 : (r == 65533) = false := by rw [beq_eq_false_iff_ne]; exact he
  have HV := Lib.hid hv
  clear hv he
  go_enter Tryz.func233, Tryz.ntmps233
  go_wp2_with (go_at_call 246; refine (Tryz.utf8_ValidRune _ _).mono ?_; rintro e w' ⟨rfl, hw⟩; rw [hw, HV.out])
  go_ret
  exact ⟨rfl, rfl⟩
set_option maxRecDepth 100000 in
set_option maxHeartbeats 1000000 in
theorem Rune_long (r : Int) (w : World) (h0 : 128 ≤ r) (h1 : r ≤ 2147483647) (he : r ≠ 65533) (hv : Lib.validRune r = true) (e : ByteArray) (hE : Utf8.encode r = e) (h2 : 3 ≤ e.size) (h4 : e.size ≤ 4) :
    Calls Tryz.prog 233 #[.string ⟨#[61, 10]⟩, .int .i32 r] w fun e w' => e = .returned (.int .i64 (-1)) ∧ w = w' := by
  have q0 : ¬ r < 128 := by omega
  have q1 : (r == 65533) = false := by rw [beq_eq_false_iff_ne]; exact he
  have HV := Lib.hid hv
  have q2 : ¬ ((e.size : Int) - 1 < 2) := by omega
  clear hv he
  go_enter Tryz.func233, Tryz.ntmps233
  go_wp2_with (go_at_call 246; refine (Tryz.utf8_ValidRune _ _).mono ?_; rintro e w' ⟨rfl, hw⟩; rw [hw, HV.out])
  go_step3
  go_wp2
  go_loop [9, 10, 11, 12] (fun v9 v10 _ _ => v9 = .int .i64 (e.size - 1) ∧ v10 = .int .i64 0) (fun _ _ _ _ => 0)
  case atStart => exact ⟨rfl, rfl⟩
  case round =>
    obtain ⟨rfl, rfl⟩ := hrel
    go_wp2
    first | rw [Exit.noGoto_ret] | skip
    go_ret
    exact ⟨rfl, rfl⟩
set_option maxRecDepth 100000 in
set_option maxHeartbeats 1000000 in
theorem Rune_two (r : Int) (w : World) (h0 : 128 ≤ r) (h1 : r ≤ 2147483647) (he : r ≠ 65533) (hv : Lib.validRune r = true) (a b : UInt8) (hE : Utf8.encode r = ⟨#[a, b]⟩) (hb : 128 ≤ b.toNat) :
    Calls Tryz.prog 233 #[.string ⟨#[61, 10]⟩, .int .i32 r] w fun e w' => e = .returned (.int .i64 (-1)) ∧ Below w.heap.size w w' := by
  have q0 : ¬ r < 128 := by omega
  have q1 : (r == 65533) = false := by rw [beq_eq_false_iff_ne]; exact he
  have HV := Lib.hid hv
  have q2 : ((10 : Int) == (b.toNat : Int)) = false := by rw [beq_eq_false_iff_ne]; omega
  have q3 : ((10 : Int) != (b.toNat : Int)) = true := by rw [bne, q2]; rfl
  have q4 : ((((ByteArray.mk #[61, 10])[1]'(by decide)).toNat : Int) != (((ByteArray.mk #[a, b])[1]'(show 1 < 2 by omega)).toNat : Int)) = true := q3
  have hsz : (ByteArray.mk #[a, b]).size = 2 := rfl
  clear hv he
  go_enter Tryz.func233, Tryz.ntmps233
  go_wp2_with (go_at_call 246; refine (Tryz.utf8_ValidRune _ _).mono ?_; rintro e w' ⟨rfl, hw⟩; rw [hw, HV.out])
  go_step3
  go_wp2
  go_loop [9, 10, 11, 12] (fun v9 v10 _ _ => v9 = .int .i64 1 ∧ v10 = .int .i64 0) (fun _ _ _ _ => 0)
  case atStart => exact ⟨rfl, rfl⟩
  case round =>
    obtain ⟨rfl, rfl⟩ := hrel
    go_wp2
    go_step3
    go_wp2
    go_quiet (fail)
    go_wp2
    have hw2 : IntKind.i64.wrap ((1 : Int) + 1) = 2 := rfl
    have hw3 : IntKind.i64.wrap (2 : Int) = 2 := rfl
    have hsl : ∀ w, (Instr.slice 9 (.string ⟨#[61, 10]⟩) (some (.int .i64 2)) none none).run Tryz.prog w = .ok (.string ⟨#[]⟩) w := fun w => by kernel_rfl
    have hsl2 : ∀ w, (Instr.sliceAt 9 (.string ⟨#[61, 10]⟩) (some (.int .i64 2)) none none).run Tryz.prog w = .ok (.string ⟨#[]⟩) w := fun w => by kernel_rfl
    go_still_tail 7, (by kernel_rfl)
    go_wp2_with fail
    refine (IndexByte_any _ _ _).mono ?_
    rintro e w' ⟨rfl, rfl⟩
    rw [show firstIdx (ByteArray.mk #[]) ((((ByteArray.mk #[a, b])[1]'(show 1 < 2 by omega)).toNat : Int).toNat.toUInt8) = -1 from rfl]
    go_wp2
    rw [Exit.noGoto_ret]
    go_wp2
    first | rw [Exit.noGoto_ret] | skip
    go_ret
    exact ⟨rfl, rfl, rfl, rfl, Nat.le_refl _, fun _ _ => rfl⟩
set_option maxRecDepth 100000 in
set_option maxHeartbeats 1000000 in
theorem Rune_err (w : World) :
    Calls Tryz.prog 233 #[.string ⟨#[61, 10]⟩, .int .i32 65533] w fun e w' => e = .returned (.int .i64 (-1)) ∧ Below w.heap.size w w' := by
  go_enter Tryz.func233, Tryz.ntmps233
  go_wp2
  obtain ⟨s, hs⟩ : ∃ s : ByteArray, s = ⟨#[61, 10]⟩ := ⟨_, rfl⟩
  rw [← hs]
  have hsz : s.size = 2 := by rw [hs]; rfl
  have HX := Lib.hid (show ∀ k (h : k < s.size), (s[k]'h).toNat < 128 from by
    subst hs
    intro k h
    have : k = 0 ∨ k = 1 := by have : (ByteArray.mk #[61, 10]).size = 2 := rfl; omega
    rcases this with rfl | rfl
    · show (61 : UInt8).toNat < 128; decide
    · show (10 : UInt8).toNat < 128; decide)
  clear hs
  go_loopg [5, 6] 2 (fun g _ _ wx => ∃ i : Nat, i + g = 2 ∧ wx = w.iter s i)
  case atStart => exact ⟨0, by omega, rfl⟩
  case round =>
    obtain ⟨i, hig, rfl⟩ := hrel
    cases gk with
    | zero =>
      obtain rfl : i = 2 := by omega
      have hnx := run_next_end (P := Tryz.prog) w s 2
      go_wp2
      go_ret
      exact ⟨rfl, (Below.refl _ _).alloc (Nat.le_refl _) _⟩
    | succ g =>
      have hi : i < s.size := by omega
      have hx := HX.out i hi
      have hnx := fun ty => run_next_ascii (P := Tryz.prog) w s i ty hi hx
      have hne : (((s[i]'hi).toNat : Int) == 65533) = false := by rw [beq_eq_false_iff_ne]; omega
      go_wp2
      go_roundg g
      case measure => omega
      case rel => exact ⟨i + 1, by omega, rfl⟩
set_option maxRecDepth 100000 in
set_option maxHeartbeats 1000000 in
theorem Rune_asc (r : Int) (w : World) (h0 : 0 ≤ r) (h1 : r < 128) :
    Calls Tryz.prog 233 #[.string ⟨#[61, 10]⟩, .int .i32 r] w fun e w' => e = .returned (.int .i64 (firstIdx ⟨#[61, 10]⟩ r.toNat.toUInt8)) ∧ Below w.heap.size w w' := by
  have HI := Lib.hid (fun w => IndexByte_any ⟨#[61, 10]⟩ r w)
  go_enter Tryz.func233, Tryz.ntmps233
  go_wp2_with fail
  refine (HI.out _).mono ?_
  rintro e w' ⟨rfl, rfl⟩
  go_wp2
  go_ret
  exact ⟨rfl, Below.refl _ _⟩
theorem Rune_high (r : Int) (w : World) (h0 : 128 ≤ r) (h1 : r ≤ 2147483647) :
    Calls Tryz.prog 233 #[.string ⟨#[61, 10]⟩, .int .i32 r] w fun e w' => e = .returned (.int .i64 (-1)) ∧ Below w.heap.size w w' := by
  by_cases he : r = 65533
  · subst he; exact Rune_err w
  · cases hv : Lib.validRune r with
    | false => exact (Rune_bad r w h0 h1 he hv).mono fun e w' ⟨a, b⟩ => ⟨a, by rw [← b]; exact Below.refl _ _⟩
    | true =>
      obtain ⟨e1, e2, e3⟩ := encode_facts r (valid_of hv) h0
      by_cases h3 : 3 ≤ (Utf8.encode r).size
      · exact (Rune_long r w h0 h1 he hv _ rfl h3 e2).mono fun e w' ⟨a, b⟩ => ⟨a, by rw [← b]; exact Below.refl _ _⟩
      · have h2 : (Utf8.encode r).data.toList.length = 2 := by rw [← Lib.size_eq]; omega
        obtain ⟨a, b, hab⟩ : ∃ a b, (Utf8.encode r).data.toList = [a, b] := by
          match hl : (Utf8.encode r).data.toList, h2 with
          | [a, b], _ => exact ⟨a, b, rfl⟩
        have hE : Utf8.encode r = ⟨#[a, b]⟩ := ext_bytes (by rw [hab])
        refine Rune_two r w h0 h1 he hv a b hE ?_
        have := e3 (by omega)
        simp only [hE] at this
        exact this
end Go.Proofs.YtaffgndickdbiaaGreatDoor
namespace Go.Creel
open Go.RowKit
theorem below_iterAt {B k q : Nat} {w wr : World} {s : ByteArray} (h : Below B w wr) (hk : B ≤ k) : Below B w (wr.iterAt k s q) := by
  refine ⟨h.os, h.tape, h.output, by simp [World.iterAt]; exact h.size, fun b hb => ?_⟩
  have : (wr.iterAt k s q).heap[b]? = wr.heap[b]? := by
    simp only [World.iterAt]
    rw [Array.getElem?_setIfInBounds_ne (by omega)]
  rw [this]; exact h.block b hb
def NoSign (s : ByteArray) (p : Nat) : Prop := p ≤ s.size ∧ ∀ j, j < p → byt s j ≠ 61 ∧ byt s j ≠ 10
theorem NoSign.next {s : ByteArray} {p : Nat} (h : NoSign s p) (hp : p < s.size) (hx : byt s p ≠ 61 ∧ byt s p ≠ 10) : p < p + (Utf8.decode s p).2 ∧ NoSign s (p + (Utf8.decode s p).2) := by
  have hn : 1 ≤ (Utf8.decode s p).2 := by
    by_cases h128 : (s[p]'hp).toNat < 128
    · rw [decode_ascii s p hp h128]; exact Nat.le_refl _
    · exact (decode_high s p hp (by omega)).2
  have hsk := decode_skips s p
  generalize (Utf8.decode s p).2 = n at *
  refine ⟨by omega, ?_, fun j hj => ?_⟩
  · by_cases h1 : n = 1
    · omega
    · have := (hsk (n - 1) (by omega) (by omega)).1; omega
  · rcases Nat.lt_trichotomy j p with e | e | e
    · exact h.2 j e
    · rw [e]; exact hx
    · obtain ⟨k, rfl⟩ : ∃ k, j = p + k := ⟨j - p, by omega⟩
      have := (hsk k (by omega) (by omega)).2
      omega
end Go.Creel
namespace Go.Proofs.YtaffgndickdbiaaGreatDoor
open Go.Creel Go.RowKit
theorem ascii_idx {x : Nat} (hx : x < 128) : decide (0 ≤ firstIdx ⟨#[61, 10]⟩ ((x : Int).toNat.toUInt8)) = (decide (x = 61) || decide (x = 10)) := by
  rw [idx_has]
  unfold hasB
  have e : ((x : Int).toNat.toUInt8).toNat = x := by simp; omega
  have key : ∀ c : UInt8, (c == (x : Int).toNat.toUInt8) = decide (x = c.toNat) := by
    intro c
    rw [Bool.eq_iff_iff, beq_iff_eq, decide_eq_true_eq]
    constructor
    · intro h; rw [h, e]
    · intro h; exact UInt8.toNat_inj.1 (by rw [e]; exact h.symm)
  simp only [List.any_cons, List.any_nil, key, Bool.or_false]
  rfl
theorem UseSet_any (n : Int) (w : World) :
    Calls Tryz.prog 237 #[.int .i64 n] w fun e w' => e = .returned (.bool (decide (8 < n))) ∧ w = w' := by
  go_enter Tryz.func237, Tryz.ntmps237
  go_wp2
  go_ret
  exact ⟨rfl, rfl⟩
set_option maxRecDepth 100000 in
set_option maxHeartbeats 2000000 in
theorem IndexAny_short (s : ByteArray) (w : World) (h8 : s.size ≤ 8) :
    Calls Tryz.prog 222 #[.string s, .string ⟨#[61, 10]⟩] w (RetIdx w (keyBad s)) := by
  have h8z : decide ((8 : Int) < (s.size : Int)) = false := decide_eq_false (by omega)
  have HYES := Lib.hid (fun k hk e => keyBad_yes (s := s) (k := k) hk e)
  have HNO := Lib.hid (keyBad_no (s := s))
  go_enter Tryz.func222, Tryz.ntmps222
  go_wp2_with (go_at_call 237; refine (UseSet_any _ _).mono ?_; rintro e w' ⟨rfl, rfl⟩; rw [h8z])
  go_loopg [9, 10] s.size (fun g _ _ wx => ∃ p : Nat, s.size ≤ p + g ∧ Hid (wx.heap[w.heap.size]? = some (.stringIter s p)) ∧ Hid (Below w.heap.size w wx) ∧ Hid (NoSign s p))
  case atStart => exact ⟨0, by omega, Lib.hid (World.iter_heap w s 0), Lib.hid ((Below.refl _ _).alloc (Nat.le_refl _) _), Lib.hid ⟨by omega, fun j hj => absurd hj (by omega)⟩⟩
  case round =>
    obtain ⟨p, hpg, HIT, HB, HS⟩ := hrel
    by_cases hlt : p < s.size
    · obtain ⟨g, rfl⟩ : ∃ g, gk = g + 1 := ⟨gk - 1, by omega⟩
      have hnx : ∀ ty, (Instr.next (.pointer (some ⟨w.heap.size, 0, none⟩)) true ty).run Tryz.prog wr = _ := fun ty => Lib.run_next_any_at wr w.heap.size s p ty HIT.out hlt
      have HNX := Lib.hid (fun hx => HS.out.next hlt hx)
      have HHIT := Lib.hid (fun e => HYES.out p hlt e)
      have HI2 := Lib.hid (fun q => Lib.iterAt_heap wr w.heap.size s p q HIT.out)
      have HB2 := Lib.hid (fun q => below_iterAt (q := q) (s := s) HB.out (Nat.le_refl _))
      by_cases h128 : (s[p]'hlt).toNat < 128
      · have hdec := decode_ascii s p hlt h128
        have hby := byt_get s p hlt
        rw [hdec] at hnx HNX
        rw [hby] at hnx h128
        have HR := Lib.hid (fun w => Rune_asc ((byt s p : Nat) : Int) w (by omega) (by omega))
        have HAI := Lib.hid (ascii_idx h128)
        clear hdec hby HIT
        generalize byt s p = x at *
        generalize firstIdx ⟨#[61, 10]⟩ ((x : Int).toNat.toUInt8) = m at *
        simp only at hnx HNX
        go_wp2_with fail
        refine (HR.out _).mono ?_
        rintro e w3 ⟨rfl, hb⟩
        have HB3 := Lib.hid ((HB2.out _).trans (hb.mono (HB2.out _).size))
        have HI3 := Lib.hid ((hb.block w.heap.size (Array.getElem?_eq_some_iff.1 (HI2.out (p + 1))).1).trans (HI2.out (p + 1)))
        clear hb hnx
        by_cases hx : x = 61 ∨ x = 10
        · have HK := Lib.hid (HHIT.out hx)
          have hd : decide (0 ≤ m) = true := by rw [HAI.out]; simpa using hx
          clear hx
          go_wp2
          go_ret
          exact ⟨_, rfl, by rw [HK.out]; simp, HB3.out⟩
        · have HN := Lib.hid (HNX.out ⟨fun e => hx (.inl e), fun e => hx (.inr e)⟩)
          have hd : decide (0 ≤ m) = false := by rw [HAI.out]; simpa using hx
          clear hx
          go_wp2
          go_roundg g
          case measure => omega
          case rel => exact ⟨p + 1, by omega, HI3, HB3, Lib.hid HN.out.2⟩
      · obtain ⟨hr1, hr2⟩ := decode_high s p hlt (by omega)
        have hr3 := decode_le s p
        have hby := byt_get s p hlt
        have HN := Lib.hid (HNX.out (by rw [← hby]; omega))
        have HR := Lib.hid (fun w => Rune_high (((Utf8.decode s p).1 : Nat) : Int) w (by omega) (by omega))
        clear hby HIT HNX HHIT
        generalize Utf8.decode s p = d at *
        obtain ⟨d1, d2⟩ := d
        simp only at hnx HN hr1 hr2 hr3 HR
        have hpd : s.size ≤ p + d2 + g := by omega
        go_wp2_with fail
        refine (HR.out _).mono ?_
        rintro e w3 ⟨rfl, hb⟩
        have HB3 := Lib.hid ((HB2.out _).trans (hb.mono (HB2.out _).size))
        have HI3 := Lib.hid ((hb.block w.heap.size (Array.getElem?_eq_some_iff.1 (HI2.out (p + d2))).1).trans (HI2.out (p + d2)))
        clear hb hnx
        go_wp2
        go_roundg g
        case measure => omega
        case rel => exact ⟨p + d2, by omega, HI3, HB3, Lib.hid HN.out.2⟩
    · have HK := Lib.hid (HNO.out (fun k hk => HS.out.2 k (by omega)))
      have hnx : ∀ ty, (Instr.next (.pointer (some ⟨w.heap.size, 0, none⟩)) true ty).run Tryz.prog wr = _ := fun ty => Lib.run_next_end_at wr w.heap.size s p ty HIT.out hlt
      go_wp2
      go_ret
      exact ⟨_, rfl, by rw [HK.out]; rfl, HB.out⟩
end Go.Proofs.YtaffgndickdbiaaGreatDoor
namespace Go.Creel
open Go.RowKit
theorem indexAny_bad : ∀ l : List UInt8, decide (0 ≤ Lib.indexAny l [61, 10]) = l.any (fun b => b == 61 || b == 10)
  | [] => rfl
  | b :: l => by
    have ih := indexAny_bad l
    have hge := Lib.indexAny_ge [61, 10] l
    unfold Lib.indexAny
    have hc : ([61, 10] : List UInt8).contains b = (b == 61 || b == 10) := by simp [List.contains, List.elem]; cases (b == 61) <;> cases (b == 10) <;> rfl
    rw [hc, List.any_cons]
    cases hb : (b == 61 || b == 10) with
    | true => simp
    | false =>
      rw [Bool.false_or, ← ih]
      by_cases h1 : Lib.indexAny l [61, 10] = -1
      · simp [h1]
      · have : (Lib.indexAny l [61, 10] == -1) = false := by rw [beq_eq_false_iff_ne]; exact h1
        rw [if_neg (by simp), if_neg (by rw [this]; simp)]
        exact decide_eq_decide.2 ⟨fun h => by omega, fun h => by omega⟩
theorem any_keyBad (s : ByteArray) : s.data.toList.any (fun b => b == 61 || b == 10) = keyBad s := by
  unfold keyBad hasB
  induction s.data.toList with
  | nil => rfl
  | cons b l ih => simp only [List.any_cons, ih]; cases b == 61 <;> cases b == 10 <;> simp
end Go.Creel
namespace Go.Proofs.YtaffgndickdbiaaGreatDoor
open Go.Creel Go.RowKit
theorem ascii_chars : ∀ (j : Nat) b, (ByteArray.mk #[61, 10]).data.toList[j]? = some b → b.toNat < 128 := by
  intro j b h
  have : j = 0 ∨ j = 1 ∨ 2 ≤ j := by omega
  rcases this with rfl | rfl | hj
  · cases h; decide
  · cases h; decide
  · have : (ByteArray.mk #[61, 10]).data.toList[j]? = none := List.getElem?_eq_none (by show 2 ≤ j; exact hj)
    rw [this] at h; cases h
theorem IndexAny_any (s : ByteArray) (w : World) (hs : s.size ≤ 4000000000) :
    Calls Tryz.prog 222 #[.string s, .string ⟨#[61, 10]⟩] w (RetIdx w (keyBad s)) := by
  by_cases h8 : s.size ≤ 8
  · exact IndexAny_short s w h8
  · refine (Tryz.strings_IndexAny_long (fun w => by kernel_rfl) s ⟨#[61, 10]⟩ w (show 2 ≤ 2 by omega) (by omega) (by omega) (show 2 < 4294967281 by omega) ascii_chars).mono ?_
    rintro e w' ⟨rfl, rfl⟩
    exact ⟨_, rfl, (indexAny_bad _).trans (any_keyBad s), ((Below.refl _ _).alloc (Nat.le_refl _) _).alloc (by simp) _⟩
set_option maxRecDepth 100000 in
theorem ContainsAny_any (s : ByteArray) (w : World) (hs : s.size ≤ 4000000000) :
    Calls Tryz.prog 200 #[.string s, .string ⟨#[61, 10]⟩] w fun e w' => e = .returned (.bool (keyBad s)) ∧ Below w.heap.size w w' := by
  have HI := Lib.hid (IndexAny_any s w hs)
  go_enter Tryz.func200, Tryz.ntmps200
  go_wp2_with fail
  refine HI.out.mono ?_
  rintro e w2 ⟨m, rfl, hm, hb⟩
  have HB := Lib.hid hb
  clear hb
  go_wp2
  go_ret
  exact ⟨rfl, HB.out⟩
end Go.Proofs.YtaffgndickdbiaaGreatDoor
namespace Go.Creel
def recFault (r : Rec) : Int :=
  if r.key.size < 1 ∨ 60 < r.key.size ∨ 500 < r.value.size then 1 else if (keyBad r.key || hasB r.value 0) = true then 3 else 0
def Rec.cells (r : Rec) : Array Go.Value := #[.string r.key, .string r.value]
theorem recFault_one {r : Rec} (h : r.key.size < 1 ∨ 60 < r.key.size ∨ 500 < r.value.size) : recFault r = 1 := by unfold recFault; rw [if_pos h]
theorem recFault_two {r : Rec} (h : ¬ (r.key.size < 1 ∨ 60 < r.key.size ∨ 500 < r.value.size)) (h2 : (keyBad r.key || hasB r.value 0) = true) : recFault r = 3 := by unfold recFault; rw [if_neg h, if_pos h2]
theorem recFault_none {r : Rec} (h : ¬ (r.key.size < 1 ∨ 60 < r.key.size ∨ 500 < r.value.size)) (h2 : (keyBad r.key || hasB r.value 0) = false) : recFault r = 0 := by unfold recFault; rw [if_neg h, if_neg (by rw [h2]; simp)]
theorem recFault_ok {r : Rec} (h : recFault r = 0) : 1 ≤ r.key.size ∧ r.key.size ≤ 60 ∧ r.value.size ≤ 500 ∧ keyBad r.key = false ∧ hasB r.value 0 = false := by
  by_cases h1 : r.key.size < 1 ∨ 60 < r.key.size ∨ 500 < r.value.size
  · rw [recFault_one h1] at h; cases h
  · cases h2 : (keyBad r.key || hasB r.value 0) with
    | true => rw [recFault_two h1 h2] at h; cases h
    | false => simp only [Bool.or_eq_false_iff] at h2; exact ⟨by omega, by omega, by omega, h2.1, h2.2⟩
end Go.Creel
namespace Go.Proofs.YtaffgndickdbiaaGreatDoor
open Go.Creel Go.RowKit
set_option maxRecDepth 100000 in
set_option maxHeartbeats 1000000 in
theorem RecL_any (r : Rec) (w : World) (hk : r.key.size ≤ maxLen) (hv : r.value.size ≤ maxLen) :
    Calls Tryz.prog 149 #[.agg r.cells] w fun e w' => e = .returned (.int .i64 (recFault r)) ∧ Below w.heap.size w w' := by
  obtain ⟨key, value⟩ := r
  unfold maxLen at hk hv
  show Calls Tryz.prog 149 #[.agg #[.string key, .string value]] w _
  simp only at hk hv
  by_cases h1 : key.size < 1 ∨ 60 < key.size ∨ 500 < value.size
  · have HF := Lib.hid (recFault_one (r := ⟨key, value⟩) h1)
    by_cases ha : key.size < 1
    · clear h1
      go_enter Tryz.func149, Tryz.ntmps149
      go_wp2
      go_ret
      rw [HF.out]
      exact ⟨rfl, (Below.refl _ _).alloc (Nat.le_refl _) _⟩
    · by_cases hb : 60 < key.size
      · clear h1
        go_enter Tryz.func149, Tryz.ntmps149
        go_wp2
        go_ret
        rw [HF.out]
        exact ⟨rfl, (Below.refl _ _).alloc (Nat.le_refl _) _⟩
      · have hc : 500 < value.size := by omega
        clear h1
        go_enter Tryz.func149, Tryz.ntmps149
        go_wp2
        go_ret
        rw [HF.out]
        exact ⟨rfl, (Below.refl _ _).alloc (Nat.le_refl _) _⟩
  · have hk1 : ¬ key.size < 1 := by omega
    have hk2 : ¬ 60 < key.size := by omega
    have hv2 : ¬ 500 < value.size := by omega
    have hix := idx_has value 0
    cases hb1 : keyBad key with
    | true =>
      have HF := Lib.hid (recFault_two (r := ⟨key, value⟩) h1 (by simp [hb1]))
      have HA := Lib.hid (fun W => by have := ContainsAny_any key W (by omega); rw [hb1] at this; exact this)
      clear h1 hix hb1
      go_enter Tryz.func149, Tryz.ntmps149
      go_wp2_with fail
      refine (HA.out _).mono ?_
      rintro e w1 ⟨rfl, hb⟩
      have HB := Lib.hid (((Below.refl _ _).alloc (Nat.le_refl _) _).trans (hb.mono (by simp)))
      clear hb
      go_wp2
      go_ret
      rw [HF.out]
      exact ⟨rfl, HB.out⟩
    | false =>
      have HA := Lib.hid (fun W => by have := ContainsAny_any key W (by omega); rw [hb1] at this; exact this)
      cases hh : hasB value 0 with
      | true =>
        have HF := Lib.hid (recFault_two (r := ⟨key, value⟩) h1 (by simp [hb1, hh]))
        rw [hh] at hix
        clear h1 hb1 hh
        go_enter Tryz.func149, Tryz.ntmps149
        go_wp2_with fail
        refine (HA.out _).mono ?_
        rintro e w1 ⟨rfl, hb⟩
        have HB := Lib.hid (((Below.refl _ _).alloc (Nat.le_refl _) _).trans (hb.mono (by simp)))
        obtain ⟨hc, _⟩ := bcell hb
        clear hb
        go_wp2_with (go_at_call 84; refine (IndexByte_any _ _ _).mono ?_; rintro e w' ⟨rfl, rfl⟩)
        go_ret
        rw [HF.out]
        exact ⟨rfl, HB.out⟩
      | false =>
        have HF := Lib.hid (recFault_none (r := ⟨key, value⟩) h1 (by simp [hb1, hh]))
        rw [hh] at hix
        clear h1 hb1 hh
        go_enter Tryz.func149, Tryz.ntmps149
        go_wp2_with fail
        refine (HA.out _).mono ?_
        rintro e w1 ⟨rfl, hb⟩
        have HB := Lib.hid (((Below.refl _ _).alloc (Nat.le_refl _) _).trans (hb.mono (by simp)))
        obtain ⟨hc, _⟩ := bcell hb
        clear hb
        go_wp2_with (go_at_call 84; refine (IndexByte_any _ _ _).mono ?_; rintro e w' ⟨rfl, rfl⟩)
        go_ret
        rw [HF.out]
        exact ⟨rfl, HB.out⟩
set_option maxRecDepth 100000 in
set_option maxHeartbeats 1000000 in
theorem RecR_any (r : Rec) (w : World) (hk : r.key.size ≤ maxLen) (hv : r.value.size ≤ maxLen) :
    Calls Tryz.prog 159 #[.agg r.cells] w fun e w' => e = .returned (.int .i64 (recFault r)) ∧ Below w.heap.size w w' := by
  obtain ⟨key, value⟩ := r
  have hk' := hk
  have hv' := hv
  unfold maxLen at hk hv
  show Calls Tryz.prog 159 #[.agg #[.string key, .string value]] w _
  simp only at hk hv hk' hv'
  have HA := Lib.hid (fun W => has_any key 61 61 rfl W hk')
  have HA2 := Lib.hid (fun W => has_any key 10 10 rfl W hk')
  have HA3 := Lib.hid (fun W => has_any value 0 0 rfl W hv')
  clear hk' hv'
  by_cases h1 : key.size < 1 ∨ 60 < key.size ∨ 500 < value.size
  · have HF := Lib.hid (recFault_one (r := ⟨key, value⟩) h1)
    by_cases ha : key.size = 0
    · have he := empty_t ha
      clear h1
      go_enter Tryz.func159, Tryz.ntmps159
      go_wp2
      go_ret
      rw [HF.out]
      exact ⟨rfl, (Below.refl _ _).alloc (Nat.le_refl _) _⟩
    · have he := empty_f ha
      by_cases hb : 60 < key.size
      · clear h1
        go_enter Tryz.func159, Tryz.ntmps159
        go_wp2
        go_ret
        rw [HF.out]
        exact ⟨rfl, (Below.refl _ _).alloc (Nat.le_refl _) _⟩
      · have hc : 500 < value.size := by omega
        clear h1
        go_enter Tryz.func159, Tryz.ntmps159
        go_wp2
        go_ret
        rw [HF.out]
        exact ⟨rfl, (Below.refl _ _).alloc (Nat.le_refl _) _⟩
  · have he := empty_f (a := key) (by omega)
    have hk2 : ¬ 60 < key.size := by omega
    have hv2 : ¬ 500 < value.size := by omega
    cases ha : hasB key 61 with
    | true =>
      have HF := Lib.hid (recFault_two (r := ⟨key, value⟩) h1 (by simp [keyBad, ha]))
      have HH := Lib.hid ha
      clear h1 ha
      go_enter Tryz.func159, Tryz.ntmps159
      go_wp2_with (go_at_call 105; refine (HA.out _).mono ?_; rintro e w' ⟨rfl, rfl⟩; rw [HH.out])
      go_ret
      rw [HF.out]
      exact ⟨rfl, (Below.refl _ _).alloc (Nat.le_refl _) _⟩
    | false =>
      cases hb : hasB key 10 with
      | true =>
        have HF := Lib.hid (recFault_two (r := ⟨key, value⟩) h1 (by simp [keyBad, ha, hb]))
        have HH := Lib.hid ha
        have HH2 := Lib.hid hb
        clear h1 ha hb
        go_enter Tryz.func159, Tryz.ntmps159
        go_wp2_with fail
        refine (HA.out _).mono ?_
        rintro e w' ⟨rfl, rfl⟩
        rw [HH.out]
        go_wp2_with fail
        refine (HA2.out _).mono ?_
        rintro e w' ⟨rfl, rfl⟩
        rw [HH2.out]
        go_wp2
        go_ret
        rw [HF.out]
        exact ⟨rfl, (Below.refl _ _).alloc (Nat.le_refl _) _⟩
      | false =>
        cases hc : hasB value 0 with
        | true =>
          have HF := Lib.hid (recFault_two (r := ⟨key, value⟩) h1 (by simp [keyBad, ha, hb, hc]))
          have HH := Lib.hid ha
          have HH2 := Lib.hid hb
          have HH3 := Lib.hid hc
          clear h1 ha hb hc
          go_enter Tryz.func159, Tryz.ntmps159
          go_wp2_with fail
          refine (HA.out _).mono ?_
          rintro e w' ⟨rfl, rfl⟩
          rw [HH.out]
          go_wp2_with fail
          refine (HA2.out _).mono ?_
          rintro e w' ⟨rfl, rfl⟩
          rw [HH2.out]
          go_wp2_with fail
          refine (HA3.out _).mono ?_
          rintro e w' ⟨rfl, rfl⟩
          rw [HH3.out]
          go_wp2
          go_ret
          rw [HF.out]
          exact ⟨rfl, (Below.refl _ _).alloc (Nat.le_refl _) _⟩
        | false =>
          have HF := Lib.hid (recFault_none (r := ⟨key, value⟩) h1 (by simp [keyBad, ha, hb, hc]))
          have HH := Lib.hid ha
          have HH2 := Lib.hid hb
          have HH3 := Lib.hid hc
          clear h1 ha hb hc
          go_enter Tryz.func159, Tryz.ntmps159
          go_wp2_with fail
          refine (HA.out _).mono ?_
          rintro e w' ⟨rfl, rfl⟩
          rw [HH.out]
          go_wp2_with fail
          refine (HA2.out _).mono ?_
          rintro e w' ⟨rfl, rfl⟩
          rw [HH2.out]
          go_wp2_with fail
          refine (HA3.out _).mono ?_
          rintro e w' ⟨rfl, rfl⟩
          rw [HH3.out]
          go_wp2
          go_ret
          rw [HF.out]
          exact ⟨rfl, (Below.refl _ _).alloc (Nat.le_refl _) _⟩
end Go.Proofs.YtaffgndickdbiaaGreatDoor
namespace Go.Creel
def recN (L : Nat) : Nat := if L + 1 < 10 then L + 1 else if L + 2 < 100 then L + 2 else L + 3
theorem dlen_eq (n : Nat) : (Lib.decDigits n).length = Lib.nDigits n := by
  rw [Lib.decDigits_eq]; simp
theorem dlen1 {n : Nat} (h : n < 10) : (Lib.decDigits n).length = 1 := by rw [dlen_eq]; exact Lib.nDigits_small h
theorem dlen2 {n : Nat} (h : 10 ≤ n) (h2 : n < 100) : (Lib.decDigits n).length = 2 := by rw [dlen_eq]; exact Lib.nDigits_unique 1 n h h2
theorem dlen3 {n : Nat} (h : 100 ≤ n) (h2 : n < 1000) : (Lib.decDigits n).length = 3 := by rw [dlen_eq]; exact Lib.nDigits_unique 2 n h h2
theorem dlen_cases {n : Nat} (h : n < 1000) : ((Lib.decDigits n).length = 1 ∧ n < 10) ∨ ((Lib.decDigits n).length = 2 ∧ 10 ≤ n ∧ n < 100) ∨ ((Lib.decDigits n).length = 3 ∧ 100 ≤ n) := by
  by_cases h1 : n < 10
  · exact .inl ⟨dlen1 h1, h1⟩
  · by_cases h2 : n < 100
    · exact .inr (.inl ⟨dlen2 (by omega) h2, by omega, h2⟩)
    · exact .inr (.inr ⟨dlen3 (by omega) h, by omega⟩)
theorem recN_cases (L : Nat) : (L + 1 < 10 ∧ recN L = L + 1) ∨ (9 ≤ L ∧ L + 2 < 100 ∧ recN L = L + 2) ∨ (98 ≤ L ∧ recN L = L + 3) := by
  unfold recN
  by_cases h : L + 1 < 10
  · exact .inl ⟨h, if_pos h⟩
  · rw [if_neg h]
    by_cases h2 : L + 2 < 100
    · exact .inr (.inl ⟨by omega, h2, if_pos h2⟩)
    · exact .inr (.inr ⟨by omega, if_neg h2⟩)
theorem recN_bd (L : Nat) : L + 1 ≤ recN L ∧ recN L ≤ L + 3 := by have := recN_cases L; omega
theorem recN_fits {L : Nat} (h : L ≤ 900) : recN L = L + (Lib.decDigits (recN L)).length := by
  have hb := recN_cases L
  rcases dlen_cases (show recN L < 1000 by omega) with ⟨e, h1⟩ | ⟨e, h1, h2⟩ | ⟨e, h1⟩ <;> rw [e] <;> omega
theorem recN_first {L n : Nat} (h : L ≤ 900) (hn : n < recN L) : n ≠ L + (Lib.decDigits n).length := by
  have hb := recN_cases L
  rcases dlen_cases (show n < 1000 by omega) with ⟨e, h1⟩ | ⟨e, h1, h2⟩ | ⟨e, h1⟩ <;> rw [e] <;> omega
theorem itoa_nat (n : Nat) : Lib.itoa (n : Int) = Lib.decDigits n := by unfold Lib.itoa; rw [if_neg (by omega), Int.toNat_natCast]
end Go.Creel
