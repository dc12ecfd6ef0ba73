/-
  pax.Find and its reference.
-/
import Derived.Test.YtgpcdoplahmcoaaData
namespace Go.Creel
open Go.RowKit
/-- record k of a list -/
def rk (l : List Rec) (k : Nat) : Rec := l.getD k ⟨ByteArray.empty, ByteArray.empty⟩
def recFind : List Rec → ByteArray → ByteArray × Bool
  | [], _ => (ByteArray.empty, false)
  | r :: t, key => if r.key = key then (r.value, true) else recFind t key
theorem recFind_drop {l : List Rec} {k : Nat} (h : k < l.length) (key : ByteArray) : recFind (l.drop k) key = if (rk l k).key = key then ((rk l k).value, true) else recFind (l.drop (k + 1)) key := by
  rw [List.drop_eq_getElem_cons h]
  simp [recFind, rk, List.getD_eq_getElem?_getD, List.getElem?_eq_getElem h]
theorem recs_cases {N : Nat} {w : World} {v : Value} {l : List Rec} (h : SliceC N 2 (RecC N) w [v] l) : (∃ a cap, v = .slice a 0 cap ∧ l = []) ∨
    ∃ b off cap, v = .slice (some ⟨b, off, none⟩) l.length cap ∧ 0 < l.length ∧ l.length ≤ cap ∧ cap ≤ maxLen ∧ l.length ≤ N ∧
      ∀ i, i < l.length → (w.cell? ⟨b, off + i * 2, none⟩ = some (.string (rk l i).key) ∧ w.cell? ⟨b, off + i * 2 + 1, none⟩ = some (.string (rk l i).value)) ∧ (rk l i).key.size ≤ N ∧ (rk l i).value.size ≤ N := by
  obtain ⟨a, cap, hv, h1, h2, h3, _, h4⟩ := h
  simp only [List.cons.injEq, and_true] at hv
  by_cases hl : 0 < l.length
  · obtain ⟨b, off, rfl, hc⟩ := h4 hl
    refine .inr ⟨b, off, cap, hv, hl, h1, h2, h3, fun i hi => ?_⟩
    obtain ⟨c, _, hcc, hE, hn⟩ := hc i hi
    have e0 := hcc 0 (by omega)
    have e1 := hcc 1 (by omega)
    rw [hE] at e0 e1
    have hr : rk l i = l[i] := by simp [rk, List.getD_eq_getElem?_getD, List.getElem?_eq_getElem hi]
    rw [hr]
    exact ⟨⟨by simpa using e0, by simpa using e1⟩, hn⟩
  · have : l = [] := by
      cases l with
      | nil => rfl
      | cons x r => simp at hl
    subst this
    exact .inl ⟨a, cap, by simpa using hv, rfl⟩
end Go.Creel
namespace Go.Proofs.Ytgpcdoplahmcoaa
set_option linter.unusedVariables false
open Go.Creel Go.RowKit
set_option maxRecDepth 100000 in
set_option maxHeartbeats 400000 in
theorem PaxFind_any {N : Nat} (v : Value) (l : List Rec) (key : ByteArray) (w : World) (h : SliceC N 2 (RecC N) w [v] l) :
    Calls Try.prog 18 #[v, .string key] w fun e w' => e = .returned (.tuple #[.string (recFind l key).1, .bool (recFind l key).2]) ∧ w = w' := by
  rcases recs_cases h with ⟨a, cap, rfl, rfl⟩ | ⟨b, off, cap, rfl, hpos, hle, hm, _, hc⟩
  · go_enter Try.func18, Try.ntmps18
    go_wp2
    go_loop [6] (fun i => i = .int .i64 0) (fun _ => 0)
    case atStart => rfl
    case round =>
      obtain rfl := hrel
      go_wp2
      go_ret2
      exact ⟨rfl, rfl⟩
  · unfold maxLen at hm
    have Hc := Lib.hid hc
    have HF := Lib.hid (show recFind l key = recFind (l.drop 0) key by simp)
    generalize hp : recFind l key = p at *
    clear hc h hp
    go_enter Try.func18, Try.ntmps18
    go_wp2
    go_loop [6] (fun i => ∃ k : Nat, k ≤ l.length ∧ i = .int .i64 k ∧ Hid (p = recFind (l.drop k) key)) (fun i => l.length - (intOf i).toNat)
    case atStart => exact ⟨0, by omega, rfl, HF⟩
    case round =>
      obtain ⟨k, hk, rfl, HP⟩ := hrel
      by_cases hlt : k < l.length
      · obtain ⟨⟨hc0, hc1⟩, _⟩ := Hc.out k hlt
        have HS := Lib.hid (recFind_drop hlt key)
        by_cases he : (rk l k).key = key
        · have hb := seq_t he
          have HE := Lib.hid he
          clear he
          go_wp2
          go_ret2
          exact ⟨ret_sb (by rw [HP.out, HS.out, if_pos HE.out]), rfl⟩
        · have hb := seq_f he
          have HE := Lib.hid he
          clear he
          go_wp2
          go_round
          case rel => exact ⟨k + 1, by omega, by go_num, by have := HP.out; rw [HS.out, if_neg HE.out] at this; exact this⟩
          case measure => simp [intOf]; omega
      · have hk' : k = l.length := by omega
        subst hk'
        go_wp2
        go_ret2
        exact ⟨ret_sb (by rw [HP.out, List.drop_length]; rfl), rfl⟩
set_option maxRecDepth 100000 in
set_option maxHeartbeats 400000 in
theorem Find_any {N : Nat} (v : Value) (l : List Rec) (key : ByteArray) (w : World) (h : SliceC N 2 (RecC N) w [v] l) :
    Calls Try.prog 17 #[v, .string key] w fun e w' => e = .returned (.tuple #[.string (recFind l key).1, .bool (recFind l key).2]) ∧ Below w.heap.size w w' := by
  rcases recs_cases h with ⟨a, cap, rfl, rfl⟩ | ⟨b, off, cap, rfl, hpos, hle, hm, _, hc⟩
  · go_enter Try.func17, Try.ntmps17
    go_wp2
    go_loop [7, 10] (fun _ i => i = .int .i64 0) (fun _ _ => 0)
    case atStart => rfl
    case round =>
      obtain rfl := hrel
      go_wp2
      go_ret2
      exact ⟨rfl, Below.refl _ _⟩
  · unfold maxLen at hm
    have hbl : b < w.heap.size := World.block_lt_of_cell? w _ (hc 0 hpos).1.1
    have Hc := Lib.hid hc
    have HF := Lib.hid (show recFind l key = recFind (l.drop 0) key by simp)
    generalize hp : recFind l key = p at *
    clear hc h hp
    go_enter Try.func17, Try.ntmps17
    go_wp2
    go_loopw [7, 10] (fun _ i wr => ∃ k : Nat, k ≤ l.length ∧ i = .int .i64 k ∧ Hid (p = recFind (l.drop k) key) ∧ Below w.heap.size w wr) (fun _ i _ => l.length - (intOf i).toNat)
    case atStart => exact ⟨0, by omega, rfl, HF, Below.refl _ _⟩
    case round =>
      obtain ⟨k, hk, rfl, HP, hB⟩ := hrel
      by_cases hlt : k < l.length
      · obtain ⟨⟨hc0, hc1⟩, _⟩ := Hc.out k hlt
        rw [← hB.cell (p := ⟨b, off + k * 2, none⟩) hbl] at hc0
        rw [← hB.cell (p := ⟨b, off + k * 2 + 1, none⟩) hbl] at hc1
        have HS := Lib.hid (recFind_drop hlt key)
        have HB := Lib.hid hB
        have hsz := hB.size
        clear hB
        by_cases he : (rk l k).key = key
        · have hb := seq_t he
          have HE := Lib.hid he
          clear he
          go_wp2
          go_ret2
          exact ⟨ret_sb (by rw [HP.out, HS.out, if_pos HE.out]), HB.out.alloc hsz _⟩
        · have hb := seq_f he
          have HE := Lib.hid he
          clear he
          go_wp2
          go_roundw
          case rel => exact ⟨k + 1, by omega, by go_num, by have := HP.out; rw [HS.out, if_neg HE.out] at this; exact this, HB.out.alloc hsz _⟩
          case measure => simp [intOf]; omega
      · have hk' : k = l.length := by omega
        subst hk'
        go_wp2
        go_ret2
        exact ⟨ret_sb (by rw [HP.out, List.drop_length]; rfl), hB⟩
end Go.Proofs.Ytgpcdoplahmcoaa
