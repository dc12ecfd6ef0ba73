/-
  list.Line, walked.
-/
import Derived.Test.YtaffgndickdbiaaDoorLineSpec
import Derived.Test.YtaffgndickdbiaaDoorEntAll
import Derived.Test.YtaffgndickdbiaaDoorEntRight
import Derived.Test.YtaffgndickdbiaaDoorModeText
import Derived.Test.YtaffgndickdbiaaDoorModeRef
import Derived.Test.YtaffgndickdbiaaDoorDay
import Derived.Test.YtaffgndickdbiaaDoorEntFault
import Derived.Test.YtaffgndickdbiaaDoorEnts
import Derived.Deep.CutRange
import Derived.Deep.RegionHeld3
namespace Go.Creel
set_option linter.unusedVariables false
set_option linter.unusedSimpArgs false
open Go.RowKit
/-- the sign of a kind -/
def kindS (k : Int) : ByteArray := (⟨#[63, 45, 100, 108, 104]⟩ : ByteArray).extract k.toNat (k.toNat + 1)
theorem kindS_size {k : Int} (h : 1 ≤ k ∧ k ≤ 4) : (kindS k).size = 1 := by
  unfold kindS
  have : k.toNat = 1 ∨ k.toNat = 2 ∨ k.toNat = 3 ∨ k.toNat = 4 := by omega
  rcases this with e | e | e | e <;> rw [e] <;> rfl
/-- the seconds of the day -/
def leftN (s : Int) : Nat := (s % 86400).toNat
theorem leftN_lt (s : Int) : leftN s < 86400 := by unfold leftN; omega
theorem leftN_eq (s : Int) : ((leftN s : Nat) : Int) = s % 86400 := by unfold leftN; omega
theorem tmod_left (s : Int) : ∃ r, s.tmod 86400 = r ∧ -86400 < r ∧ r < 86400 ∧ (0 ≤ r → r = (leftN s : Int)) ∧ (r < 0 → r + 86400 = (leftN s : Int)) := by
  have hr := Int.tmod_eq_emod (a := s) (b := 86400)
  have h8 : ((86400 : Int).natAbs : Int) = 86400 := rfl
  have hl := leftN_eq s
  generalize s.tmod 86400 = r at *
  generalize (leftN s : Int) = l at *
  refine ⟨r, rfl, ?_⟩
  split at hr <;> refine ⟨by omega, by omega, fun h => by omega, fun h => by omega⟩
def twoI (n : Int) : ByteArray := twoS n.toNat
theorem twoI_size (n : Int) : (twoI n).size = 2 := twoS_size _
/-- a line, but for what it leads to -/
def lineB (x : Ent) : ByteArray := (kindS x.kind) ++ (modeText x.mt.mode).1 ++ (⟨#[32]⟩ : ByteArray) ++ (whoS x.mt.user x.mt.uid) ++ (⟨#[47]⟩ : ByteArray) ++ (whoS x.mt.group x.mt.gid) ++ (⟨#[32]⟩ : ByteArray) ++ (itoaS x.data.length) ++ (⟨#[32]⟩ : ByteArray) ++ (itoaS (dayOf x.mt.second).1) ++ (⟨#[45]⟩ : ByteArray) ++ (twoI (dayOf x.mt.second).2.1) ++ (⟨#[45]⟩ : ByteArray) ++ (twoI (dayOf x.mt.second).2.2.1) ++ (⟨#[32]⟩ : ByteArray) ++ (twoI ((leftN x.mt.second : Int) / 3600)) ++ (⟨#[58]⟩ : ByteArray) ++ (twoI ((leftN x.mt.second : Int) / 60 % 60)) ++ (⟨#[32]⟩ : ByteArray) ++ x.path
def lineT (x : Ent) : ByteArray := if x.kind = 3 then lineB x ++ ((⟨#[32, 45, 62, 32]⟩ : ByteArray) ++ x.target) else if x.kind = 4 then lineB x ++ ((⟨#[32, 108, 105, 110, 107, 32, 116, 111, 32]⟩ : ByteArray) ++ x.target) else lineB x
noncomputable def lineOf (x : Ent) : ByteArray × Int := if ¬ entFault x = 0 then (ByteArray.empty, entFault x) else (lineT x, 0)
theorem lineOf_bad {x : Ent} (h : ¬ entFault x = 0) : lineOf x = (ByteArray.empty, entFault x) := if_pos h
theorem lineOf_ok {x : Ent} (h : entFault x = 0) : lineOf x = (lineT x, 0) := if_neg (by simpa using h)
theorem modeText_size (m : Int) : (modeText m).1.size ≤ 9 := by
  unfold modeText
  split
  · simp
  · simp only [ofL_size, modeL_len]; omega
theorem whoS_size {s : ByteArray} {n : Int} (h : s.size ≤ 60) (hn : i64 n) : (whoS s n).size ≤ 60 := by
  unfold whoS
  split
  · have := itoaS_size hn; omega
  · exact h
theorem dayOf_in {s : Int} (h : -1099511627776 ≤ s ∧ s ≤ 1099511627776) : dayOf s = ((dayP s).1, (dayP s).2.1, (dayP s).2.2, 0) := by unfold dayOf; rw [if_neg (by omega)]
theorem line_sums (v0 v1 v3 v5 v7 v9 v11 v13 v15 v17 v19 : Nat) (h0 : v0 ≤ 1) (h1 : v1 ≤ 9) (h3 : v3 ≤ 60) (h5 : v5 ≤ 60) (h7 : v7 ≤ 21) (h9 : v9 ≤ 21) (h11 : v11 ≤ 2) (h13 : v13 ≤ 2) (h15 : v15 ≤ 2) (h17 : v17 ≤ 2) (h19 : v19 ≤ 400) : ¬ 9223372036854775807 < v0 + v1 ∧ ¬ 9223372036854775807 < v0 + v1 + 1 ∧ ¬ 9223372036854775807 < v0 + v1 + 1 + v3 ∧ ¬ 9223372036854775807 < v0 + v1 + 1 + v3 + 1 ∧ ¬ 9223372036854775807 < v0 + v1 + 1 + v3 + 1 + v5 ∧ ¬ 9223372036854775807 < v0 + v1 + 1 + v3 + 1 + v5 + 1 ∧ ¬ 9223372036854775807 < v0 + v1 + 1 + v3 + 1 + v5 + 1 + v7 ∧ ¬ 9223372036854775807 < v0 + v1 + 1 + v3 + 1 + v5 + 1 + v7 + 1 ∧ ¬ 9223372036854775807 < v0 + v1 + 1 + v3 + 1 + v5 + 1 + v7 + 1 + v9 ∧ ¬ 9223372036854775807 < v0 + v1 + 1 + v3 + 1 + v5 + 1 + v7 + 1 + v9 + 1 ∧ ¬ 9223372036854775807 < v0 + v1 + 1 + v3 + 1 + v5 + 1 + v7 + 1 + v9 + 1 + v11 ∧ ¬ 9223372036854775807 < v0 + v1 + 1 + v3 + 1 + v5 + 1 + v7 + 1 + v9 + 1 + v11 + 1 ∧ ¬ 9223372036854775807 < v0 + v1 + 1 + v3 + 1 + v5 + 1 + v7 + 1 + v9 + 1 + v11 + 1 + v13 ∧ ¬ 9223372036854775807 < v0 + v1 + 1 + v3 + 1 + v5 + 1 + v7 + 1 + v9 + 1 + v11 + 1 + v13 + 1 ∧ ¬ 9223372036854775807 < v0 + v1 + 1 + v3 + 1 + v5 + 1 + v7 + 1 + v9 + 1 + v11 + 1 + v13 + 1 + v15 ∧ ¬ 9223372036854775807 < v0 + v1 + 1 + v3 + 1 + v5 + 1 + v7 + 1 + v9 + 1 + v11 + 1 + v13 + 1 + v15 + 1 ∧ ¬ 9223372036854775807 < v0 + v1 + 1 + v3 + 1 + v5 + 1 + v7 + 1 + v9 + 1 + v11 + 1 + v13 + 1 + v15 + 1 + v17 ∧ ¬ 9223372036854775807 < v0 + v1 + 1 + v3 + 1 + v5 + 1 + v7 + 1 + v9 + 1 + v11 + 1 + v13 + 1 + v15 + 1 + v17 + 1 ∧ ¬ 9223372036854775807 < v0 + v1 + 1 + v3 + 1 + v5 + 1 + v7 + 1 + v9 + 1 + v11 + 1 + v13 + 1 + v15 + 1 + v17 + 1 + v19 := by
  refine ⟨?_, ?_, ?_, ?_, ?_, ?_, ?_, ?_, ?_, ?_, ?_, ?_, ?_, ?_, ?_, ?_, ?_, ?_, ?_⟩ <;> omega
theorem lineB_size {x : Ent} (h : EntRight x) : (lineB x).size ≤ 800 := by
  have h1 := kindS_size h.kind
  have h2 := modeText_size x.mt.mode
  have h3 := whoS_size (n := x.mt.uid) h.mt.user (by have := h.mt.uid; unfold i64; omega)
  have h4 := whoS_size (n := x.mt.gid) h.mt.group (by have := h.mt.gid; unfold i64; omega)
  have h5 := itoaS_size (n := (x.data.length : Int)) (by have := h.data; unfold i64; omega)
  have h6 := itoaS_size (n := (dayOf x.mt.second).1) (by rw [dayOf_in h.mt.second]; exact dayP_y _ h.mt.second.1 h.mt.second.2)
  have h7 := h.pathSize
  unfold lineB
  simp only [ByteArray.size_append, twoI_size]
  have e1 : (⟨#[32]⟩ : ByteArray).size = 1 := rfl
  have e2 : (⟨#[47]⟩ : ByteArray).size = 1 := rfl
  have e3 : (⟨#[45]⟩ : ByteArray).size = 1 := rfl
  have e4 : (⟨#[58]⟩ : ByteArray).size = 1 := rfl
  omega
end Go.Creel
namespace Go.Proofs.YtaffgndickdbiaaDoor
set_option linter.unusedVariables false
set_option linter.unusedSimpArgs false
open Go.Creel Go.RowKit
set_option maxRecDepth 100000 in
set_option maxHeartbeats 4000000 in
theorem LineL_ok (x : Ent) (w : World) (hM : MaxOk w) (hx : x.Ok maxLen w) (hE : entFault x = 0) (hT : Pow10 w) :
    Calls Tryd.prog 19 #[x.val] w fun e w' => e = .returned (.tuple #[.string (lineT x), .int .i64 0]) ∧ Below w.heap.size w w' := by
  have HR := Lib.hid (entRight hE)
  have HSZ := Lib.hid (lineB_size HR.out)
  have HBX := Lib.hid ((Below.refl w.heap.size w).alloc (Nat.le_refl _) (.cells #[.string x.path, .int .i64 x.kind, .string x.target, .int .i64 x.mt.mode, .int .i64 x.mt.uid, .int .i64 x.mt.gid, .string x.mt.user, .string x.mt.group, .int .i64 x.mt.second, .int .i64 x.mt.nano, .slice x.da x.data.length x.dcap] 40))
  have HEB := Lib.hid (entAt_box w x 40)
  have HPR := Lib.hid (PlanRight_any x _ (hM.below HBX.out) hx.path hx.target hx.mt (by obtain ⟨_, _, _, _, _, h, _⟩ := hx.data; exact h) hx.kind (Nat.le_refl _))
  rw [hE] at HPR
  have HP := Lib.hid (hT.below HBX.out)
  have hms : i64 x.mt.mode := by have := HR.out.mt.mode; unfold i64; omega
  have hss : i64 x.mt.second := by have := HR.out.mt.second; unfold i64; omega
  have hus : i64 x.mt.uid := by have := HR.out.mt.uid; unfold i64; omega
  have hgs : i64 x.mt.gid := by have := HR.out.mt.gid; unfold i64; omega
  have HMT := Lib.hid (fun w => ModeText_any x.mt.mode w hms)
  have HDY := Lib.hid (fun w => Day_any x.mt.second w hss)
  clear hM hx hE hT
  go_enter Tryd.func19, Tryd.ntmps19
  go_wp2_with fail
  refine HPR.out.mono ?_
  rintro e w1 ⟨rfl, hb⟩
  have HB1 := Lib.hid (HBX.out.trans (hb.mono HBX.out.size))
  have HE1 := Lib.hid (HEB.out.below hb)
  have HP1 := Lib.hid (HP.out.below hb)
  obtain ⟨h0, h1, h2, h3, h4, h5, h6, h7, h8, h9, h10⟩ := HE1.out.zero
  clear hb
  go_wp2_with fail
  refine (HMT.out _).mono ?_
  rintro e w5 ⟨rfl, hb⟩
  have HB5 := Lib.hid (HB1.out.trans (hb.mono HB1.out.size))
  have HE5 := Lib.hid (HE1.out.below hb)
  have HP5 := Lib.hid (HP1.out.below hb)
  clear hb h0 h1 h2 h3 h4 h5 h6 h7 h8 h9 h10
  obtain ⟨h0, h1, h2, h3, h4, h5, h6, h7, h8, h9, h10⟩ := HE5.out.zero
  go_wp2_with fail
  refine (HDY.out _).mono ?_
  rintro e w' ⟨rfl, rfl⟩
  go_upto_region 7 with fail
  have HLF := Lib.hid (leftN_eq x.mt.second)
  have hlt := leftN_lt x.mt.second
  obtain ⟨rr, hrr, hr1, hr2, hr3, hr4⟩ := tmod_left x.mt.second
  have HTM := Lib.hid (And.intro hr3 hr4)
  have HTB := Lib.hid (And.intro hr1 hr2)
  rw [hrr]
  clear hr1 hr2 hr3 hr4 hrr
  have HDB := Lib.hid (dayP_bd x.mt.second)
  have HDI := Lib.hid (dayOf_in HR.out.mt.second)
  have HDY2 := Lib.hid (dayP_y _ HR.out.mt.second.1 HR.out.mt.second.2)
  have HLB := Lib.hid (show lineB x = (kindS x.kind) ++ (modeText x.mt.mode).1 ++ (⟨#[32]⟩ : ByteArray) ++ (whoS x.mt.user x.mt.uid) ++ (⟨#[47]⟩ : ByteArray) ++ (whoS x.mt.group x.mt.gid) ++ (⟨#[32]⟩ : ByteArray) ++ (itoaS x.data.length) ++ (⟨#[32]⟩ : ByteArray) ++ (itoaS (dayOf x.mt.second).1) ++ (⟨#[45]⟩ : ByteArray) ++ (twoI (dayOf x.mt.second).2.1) ++ (⟨#[45]⟩ : ByteArray) ++ (twoI (dayOf x.mt.second).2.2.1) ++ (⟨#[32]⟩ : ByteArray) ++ (twoI ((leftN x.mt.second : Int) / 3600)) ++ (⟨#[58]⟩ : ByteArray) ++ (twoI ((leftN x.mt.second : Int) / 60 % 60)) ++ (⟨#[32]⟩ : ByteArray) ++ x.path from rfl)
  rw [HDI.out] at HLB ⊢
  simp only at HLB ⊢
  generalize leftN x.mt.second = lf at *
  generalize (dayP x.mt.second).1 = yy at *
  have hm1 := HDB.out.1
  have hm2 := HDB.out.2.1
  have hd1 := HDB.out.2.2.1
  have hd2 := HDB.out.2.2.2
  generalize (dayP x.mt.second).2.1 = mm at *
  generalize (dayP x.mt.second).2.2 = dd at *
  go_cut [40] from 39 to 40 (fun u wx => u = .bool (decide (rr < 0)) ∧ wx = w5)
  case first =>
    go_wp2
    go_meet
    exact ⟨rfl, rfl⟩
  case rest =>
    obtain ⟨rfl, rfl⟩ := hcut
    go_step
    go_cut [11, 40] from 41 to 42 (fun u v40 wx => u = .int .i64 lf ∧ v40 = .bool (decide (rr < 0)) ∧ wx = wc)
    case first =>
      by_cases hr : rr < 0
      · have hb := HTB.out
        rw [decide_eq_true hr]
        go_wp2
        go_meet
        exact ⟨by rw [HTM.out.2 hr], by rw [decide_eq_true hr], rfl⟩
      · rw [decide_eq_false hr]
        go_wp2
        go_meet
        exact ⟨by rw [HTM.out.1 (by omega)], by rw [decide_eq_false (by omega)], rfl⟩
    case rest =>
    obtain ⟨rfl, rfl, rfl⟩ := hcut
    obtain ⟨w5, rfl⟩ : ∃ W : World, W = wc := ⟨_, rfl⟩
    go_upto_region 10 with fail
    have HK := Lib.hid HR.out.kind
    have hkk := HR.out.kind
    have hk1 : IntKind.i64.wrap (x.kind + 1) = x.kind + 1 := by rw [IntKind.wrap_i64]; omega
    have hsl : ∀ w, (Instr.slice 9 (.string ⟨#[63, 45, 100, 108, 104]⟩) (some (.int .i64 x.kind)) (some (.int .i64 (x.kind + 1))) none).run Tryd.prog w = .ok (.string (kindS x.kind)) w := fun w => by
      rw [run_slice_string_if w _ _ _ _ _ _ Tryd.underlying9]
      have hs : ((⟨#[63, 45, 100, 108, 104]⟩ : ByteArray).size : Int) = 5 := rfl
      rw [if_pos (by rw [hs]; omega), if_pos (by omega)]
      unfold kindS
      rw [show (x.kind + 1).toNat = x.kind.toNat + 1 by omega]
    have HWHO := Lib.hid (fun s n (hn : i64 n) W (hB : Below w5.heap.size w5 W) => show Calls Tryd.prog 54 #[.string s, .int .i64 n] W (fun e w' => e = .returned (.string (whoS s n)) ∧ w'.cell? ⟨w.heap.size, 0, none⟩ = some (.string x.path) ∧ w'.cell? ⟨w.heap.size, 1, none⟩ = some (.int .i64 x.kind) ∧ w'.cell? ⟨w.heap.size, 2, none⟩ = some (.string x.target) ∧ w'.cell? ⟨w.heap.size, 3, none⟩ = some (.int .i64 x.mt.mode) ∧ w'.cell? ⟨w.heap.size, 4, none⟩ = some (.int .i64 x.mt.uid) ∧ w'.cell? ⟨w.heap.size, 5, none⟩ = some (.int .i64 x.mt.gid) ∧ w'.cell? ⟨w.heap.size, 6, none⟩ = some (.string x.mt.user) ∧ w'.cell? ⟨w.heap.size, 7, none⟩ = some (.string x.mt.group) ∧ w'.cell? ⟨w.heap.size, 8, none⟩ = some (.int .i64 x.mt.second) ∧ w'.cell? ⟨w.heap.size, 9, none⟩ = some (.int .i64 x.mt.nano) ∧ w'.cell? ⟨w.heap.size, 10, none⟩ = some (.slice x.da x.data.length x.dcap) ∧ Below w5.heap.size w5 w') from
      (Who_any s n W hn (HP5.out.below hB)).mono fun e w' hh => by
        have hb2 := hB.trans (hh.2.mono hB.size)
        obtain ⟨a0, a1, a2, a3, a4, a5, a6, a7, a8, a9, a10⟩ := (HE5.out.below hb2).zero
        exact ⟨hh.1, a0, a1, a2, a3, a4, a5, a6, a7, a8, a9, a10, hb2⟩)
    have HITO := Lib.hid (fun n (hn : i64 n) W (hB : Below w5.heap.size w5 W) => show Calls Tryd.prog 55 #[.int .i64 n] W (fun e w' => e = .returned (.string (itoaS n)) ∧ w'.cell? ⟨w.heap.size, 0, none⟩ = some (.string x.path) ∧ w'.cell? ⟨w.heap.size, 1, none⟩ = some (.int .i64 x.kind) ∧ w'.cell? ⟨w.heap.size, 2, none⟩ = some (.string x.target) ∧ w'.cell? ⟨w.heap.size, 3, none⟩ = some (.int .i64 x.mt.mode) ∧ w'.cell? ⟨w.heap.size, 4, none⟩ = some (.int .i64 x.mt.uid) ∧ w'.cell? ⟨w.heap.size, 5, none⟩ = some (.int .i64 x.mt.gid) ∧ w'.cell? ⟨w.heap.size, 6, none⟩ = some (.string x.mt.user) ∧ w'.cell? ⟨w.heap.size, 7, none⟩ = some (.string x.mt.group) ∧ w'.cell? ⟨w.heap.size, 8, none⟩ = some (.int .i64 x.mt.second) ∧ w'.cell? ⟨w.heap.size, 9, none⟩ = some (.int .i64 x.mt.nano) ∧ w'.cell? ⟨w.heap.size, 10, none⟩ = some (.slice x.da x.data.length x.dcap) ∧ Below w5.heap.size w5 w') from
      (Itoa_any n W hn (HP5.out.below hB)).mono fun e w' hh => by
        have hb2 := hB.trans (hh.2.mono hB.size)
        obtain ⟨a0, a1, a2, a3, a4, a5, a6, a7, a8, a9, a10⟩ := (HE5.out.below hb2).zero
        exact ⟨hh.1, a0, a1, a2, a3, a4, a5, a6, a7, a8, a9, a10, hb2⟩)
    have HTWO := Lib.hid (fun n (h0 : 0 ≤ n) (hn : n < 100) W (hB : Below w5.heap.size w5 W) => show Calls Tryd.prog 56 #[.int .i64 n] W (fun e w' => e = .returned (.string (twoI n)) ∧ w'.cell? ⟨w.heap.size, 0, none⟩ = some (.string x.path) ∧ w'.cell? ⟨w.heap.size, 1, none⟩ = some (.int .i64 x.kind) ∧ w'.cell? ⟨w.heap.size, 2, none⟩ = some (.string x.target) ∧ w'.cell? ⟨w.heap.size, 3, none⟩ = some (.int .i64 x.mt.mode) ∧ w'.cell? ⟨w.heap.size, 4, none⟩ = some (.int .i64 x.mt.uid) ∧ w'.cell? ⟨w.heap.size, 5, none⟩ = some (.int .i64 x.mt.gid) ∧ w'.cell? ⟨w.heap.size, 6, none⟩ = some (.string x.mt.user) ∧ w'.cell? ⟨w.heap.size, 7, none⟩ = some (.string x.mt.group) ∧ w'.cell? ⟨w.heap.size, 8, none⟩ = some (.int .i64 x.mt.second) ∧ w'.cell? ⟨w.heap.size, 9, none⟩ = some (.int .i64 x.mt.nano) ∧ w'.cell? ⟨w.heap.size, 10, none⟩ = some (.slice x.da x.data.length x.dcap) ∧ Below w5.heap.size w5 w') from by
      have e2 : n = ((n.toNat : Nat) : Int) := by omega
      have := Two_any n.toNat W (by omega) (HP5.out.below hB)
      rw [← e2] at this
      exact this.mono fun e w' hh => by
        have hb2 := hB.trans (hh.2.mono hB.size)
        obtain ⟨a0, a1, a2, a3, a4, a5, a6, a7, a8, a9, a10⟩ := (HE5.out.below hb2).zero
        exact ⟨hh.1, a0, a1, a2, a3, a4, a5, a6, a7, a8, a9, a10, hb2⟩)
    have hdr := (Below.refl w5.heap.size w5).drew
    have hpk := Nat.le_of_eq (kindS_size HR.out.kind)
    have hpm := modeText_size x.mt.mode
    have hpu := whoS_size (n := x.mt.uid) HR.out.mt.user hus
    have hpg := whoS_size (n := x.mt.gid) HR.out.mt.group hgs
    have hds : i64 (x.data.length : Int) := by have := HR.out.data; unfold i64; omega
    have hpl := itoaS_size hds
    have hys : i64 yy := HDY2.out
    have hpy := itoaS_size hys
    have hpp := HR.out.pathSize
    have hz1 := Nat.le_of_eq (twoI_size mm)
    have hz2 := Nat.le_of_eq (twoI_size dd)
    have hz3 := Nat.le_of_eq (twoI_size ((lf : Int) / 3600))
    have hz4 := Nat.le_of_eq (twoI_size ((lf : Int) / 60 % 60))
    have HLB2 := HLB
    have hb3 : 0 ≤ (lf : Int) / 3600 ∧ (lf : Int) / 3600 < 100 := by omega
    have hb4 : 0 ≤ (lf : Int) / 60 % 60 ∧ (lf : Int) / 60 % 60 < 100 := by omega
    have hq1 : (lf : Int).tdiv 3600 = (lf : Int) / 3600 := Int.tdiv_eq_ediv_of_nonneg (by omega)
    have hq2 : (lf : Int).tdiv 60 = (lf : Int) / 60 := Int.tdiv_eq_ediv_of_nonneg (by omega)
    have hq3 : ((lf : Int) / 60).tmod 60 = (lf : Int) / 60 % 60 := Int.tmod_eq_emod_of_nonneg (by omega)
    generalize hh3 : (lf : Int) / 3600 = h3' at *
    generalize hh4 : (lf : Int) / 60 = m3' at *
    have hm3 : 0 ≤ m3' ∧ m3' ≤ 1440 := by omega
    generalize hh5 : m3' % 60 = n3' at *
    have hw1 : IntKind.i64.wrap h3' = h3' := by rw [IntKind.wrap_i64]; omega
    have hw2 : IntKind.i64.wrap m3' = m3' := by rw [IntKind.wrap_i64]; omega
    have hw3 : IntKind.i64.wrap n3' = n3' := by rw [IntKind.wrap_i64]; omega
    obtain ⟨q0, q1, q2, q3, q4, q5, q6, q7, q8, q9, q10, q11, q12, q13, q14, q15, q16, q17, q18⟩ := line_sums _ _ _ _ _ _ _ _ _ _ _ hpk hpm hpu hpg hpl hpy hz1 hz2 hz3 hz4 hpp
    go_cut [13] from 43 to 103 (fun u wx => u = .string (lineB x) ∧ Hid (Below w5.heap.size w5 wx))
    case first =>
      go_region_held3 (fun w' => w'.cell? ⟨w.heap.size, 0, none⟩ = some (.string x.path) ∧ w'.cell? ⟨w.heap.size, 1, none⟩ = some (.int .i64 x.kind) ∧ w'.cell? ⟨w.heap.size, 2, none⟩ = some (.string x.target) ∧ w'.cell? ⟨w.heap.size, 3, none⟩ = some (.int .i64 x.mt.mode) ∧ w'.cell? ⟨w.heap.size, 4, none⟩ = some (.int .i64 x.mt.uid) ∧ w'.cell? ⟨w.heap.size, 5, none⟩ = some (.int .i64 x.mt.gid) ∧ w'.cell? ⟨w.heap.size, 6, none⟩ = some (.string x.mt.user) ∧ w'.cell? ⟨w.heap.size, 7, none⟩ = some (.string x.mt.group) ∧ w'.cell? ⟨w.heap.size, 8, none⟩ = some (.int .i64 x.mt.second) ∧ w'.cell? ⟨w.heap.size, 9, none⟩ = some (.int .i64 x.mt.nano) ∧ w'.cell? ⟨w.heap.size, 10, none⟩ = some (.slice x.da x.data.length x.dcap) ∧ Below w5.heap.size w5 w') (go_keep)
        (first
          | (go_at_call 54; refine (HWHO.out _ _ ?_ _ ?_).mono ?_; assumption; (simp [*]); rintro e w3 ⟨rfl, r0, r1, r2, r3, r4, r5, r6, r7, r8, r9, r10, hb3⟩)
          | (go_at_call 55; refine (HITO.out _ ?_ _ ?_).mono ?_; assumption; (simp [*]); rintro e w3 ⟨rfl, r0, r1, r2, r3, r4, r5, r6, r7, r8, r9, r10, hb3⟩)
          | (go_at_call 56; refine (HTWO.out _ ?_ ?_ _ ?_).mono ?_; omega; omega; (simp [*]); rintro e w3 ⟨rfl, r0, r1, r2, r3, r4, r5, r6, r7, r8, r9, r10, hb3⟩))
      go_wp2_with fail
      go_meet
      case rel => exact ⟨by rw [HLB.out], Lib.hid hb3⟩
    case rest =>
      obtain ⟨rfl, HB6⟩ := hcut
      have HE6 := Lib.hid (HE5.out.below HB6.out)
      have HB7 := Lib.hid (HB5.out.trans (HB6.out.mono HB5.out.size))
      clear h0 h1 h2 h3 h4 h5 h6 h7 h8 h9 h10
      obtain ⟨h0, h1, h2, h3, h4, h5, h6, h7, h8, h9, h10⟩ := HE6.out.zero
      have hsz := HSZ.out
      have htz := HR.out.target
      have HLT := Lib.hid (show lineT x = if x.kind = 3 then lineB x ++ ((⟨#[32, 45, 62, 32]⟩ : ByteArray) ++ x.target) else if x.kind = 4 then lineB x ++ ((⟨#[32, 108, 105, 110, 107, 32, 116, 111, 32]⟩ : ByteArray) ++ x.target) else lineB x from rfl)
      generalize lineB x = lb at *
      by_cases hk3 : x.kind = 3
      · have hd3 : (x.kind == 3) = true := by rw [hk3]; rfl
        have hd4 : (x.kind == 4) = false := by rw [hk3]; rfl
        rw [if_pos hk3] at HLT
        clear hk3 hkk hk1 hsl
        go_wp2
        go_ret2
        rw [HLT.out]
        exact ⟨rfl, HB7.out⟩
      · have hd3 : (x.kind == 3) = false := by rw [beq_eq_false_iff_ne]; exact hk3
        rw [if_neg hk3] at HLT
        by_cases hk4 : x.kind = 4
        · have hd4 : (x.kind == 4) = true := by rw [hk4]; rfl
          rw [if_pos hk4] at HLT
          clear hk3 hk4 hkk hk1 hsl
          go_wp2
          go_ret2
          rw [HLT.out]
          exact ⟨rfl, HB7.out⟩
        · have hd4 : (x.kind == 4) = false := by rw [beq_eq_false_iff_ne]; exact hk4
          rw [if_neg hk4] at HLT
          clear hk3 hk4 hkk hk1 hsl
          go_wp2
          go_ret2
          rw [HLT.out]
          exact ⟨rfl, HB7.out⟩
set_option maxRecDepth 100000 in
set_option maxHeartbeats 1000000 in
theorem LineL_any (x : Ent) (w : World) (hM : MaxOk w) (hx : x.Ok maxLen w) (hT : Pow10 w) :
    Calls Tryd.prog 19 #[x.val] w fun e w' => e = .returned (.tuple #[.string (lineOf x).1, .int .i64 (lineOf x).2]) ∧ Below w.heap.size w w' := by
  by_cases hE : entFault x = 0
  · rw [lineOf_ok hE]
    exact LineL_ok x w hM hx hE hT
  · rw [lineOf_bad hE]
    have HBX := Lib.hid ((Below.refl w.heap.size w).alloc (Nat.le_refl _) (.cells #[.string x.path, .int .i64 x.kind, .string x.target, .int .i64 x.mt.mode, .int .i64 x.mt.uid, .int .i64 x.mt.gid, .string x.mt.user, .string x.mt.group, .int .i64 x.mt.second, .int .i64 x.mt.nano, .slice x.da x.data.length x.dcap] 40))
    have HPR := Lib.hid (PlanRight_any x _ (hM.below HBX.out) hx.path hx.target hx.mt (by obtain ⟨_, _, _, _, _, h, _⟩ := hx.data; exact h) hx.kind (Nat.le_refl _))
    generalize entFault x = q at *
    have hq : (q == 0) = false := by rw [beq_eq_false_iff_ne]; exact hE
    clear hM hx hE hT
    go_enter Tryd.func19, Tryd.ntmps19
    go_wp2_with fail
    refine HPR.out.mono ?_
    rintro e w1 ⟨rfl, hb⟩
    have HB1 := Lib.hid (HBX.out.trans (hb.mono HBX.out.size))
    clear hb
    go_wp2
    go_ret2
    exact ⟨rfl, HB1.out⟩
end Go.Proofs.YtaffgndickdbiaaDoor
