/-
  Members as lists of entries: what a slice of entries says of the cells; the place of a path.
-/
import Derived.Test.YtaffgndickdbiaaGreatDoorEntSpec
import Derived.Test.YtaffgndickdbiaaGreatDoorPathCmp
import Derived.Test.YtaffgndickdbiaaGreatDoorPathSplit
import Derived.Test.YtaffgndickdbiaaGreatDoorSame
import Derived.Sort.Walk0
namespace Go.Creel
set_option linter.unusedVariables false
open Go.RowKit
def entZ : Ent := ⟨.empty, 0, .empty, ⟨0, 0, 0, .empty, .empty, 0, 0⟩, none, 0, []⟩
def ek (l : List Ent) (k : Nat) : Ent := l.getD k entZ
theorem ek_eq {l : List Ent} {k : Nat} (h : k < l.length) : ek l k = l[k] := by simp [ek, List.getD_eq_getElem?_getD, List.getElem?_eq_getElem h]
theorem ek_take {l : List Ent} {i j : Nat} (h : j < i) : ek (l.take i) j = ek l j := by
  simp [ek, List.getD_eq_getElem?_getD, h]
/-- the cells of an entry -/
def EntAt (w : World) (b o : Nat) (x : Ent) : Prop := w.cell? ⟨b, o, none⟩ = some (.string x.path) ∧ w.cell? ⟨b, o + 1, none⟩ = some (.int .i64 x.kind) ∧ w.cell? ⟨b, o + 2, none⟩ = some (.string x.target) ∧ w.cell? ⟨b, o + 3, none⟩ = some (.int .i64 x.mt.mode) ∧ w.cell? ⟨b, o + 4, none⟩ = some (.int .i64 x.mt.uid) ∧ w.cell? ⟨b, o + 5, none⟩ = some (.int .i64 x.mt.gid) ∧ w.cell? ⟨b, o + 6, none⟩ = some (.string x.mt.user) ∧ w.cell? ⟨b, o + 7, none⟩ = some (.string x.mt.group) ∧ w.cell? ⟨b, o + 8, none⟩ = some (.int .i64 x.mt.second) ∧ w.cell? ⟨b, o + 9, none⟩ = some (.int .i64 x.mt.nano) ∧ w.cell? ⟨b, o + 10, none⟩ = some (.slice x.da x.data.length x.dcap)
def EntsAt (w : World) (b off : Nat) (l : List Ent) : Prop := ∀ i, i < l.length → EntAt w b (off + i * 11) (ek l i)
theorem EntAt.lt {w : World} {b o : Nat} {x : Ent} (h : EntAt w b o x) : b < w.heap.size := World.block_lt_of_cell? w _ h.1
theorem EntAt.below {w w' : World} {b o : Nat} {x : Ent} (h : EntAt w b o x) (hb : Below w.heap.size w w') : EntAt w' b o x := by
  have hlt := h.lt
  obtain ⟨h0, h1, h2, h3, h4, h5, h6, h7, h8, h9, h10⟩ := h
  exact ⟨(hb.cell (p := ⟨b, o, none⟩) hlt).trans h0, (hb.cell (p := ⟨b, o + 1, none⟩) hlt).trans h1, (hb.cell (p := ⟨b, o + 2, none⟩) hlt).trans h2, (hb.cell (p := ⟨b, o + 3, none⟩) hlt).trans h3, (hb.cell (p := ⟨b, o + 4, none⟩) hlt).trans h4, (hb.cell (p := ⟨b, o + 5, none⟩) hlt).trans h5, (hb.cell (p := ⟨b, o + 6, none⟩) hlt).trans h6, (hb.cell (p := ⟨b, o + 7, none⟩) hlt).trans h7, (hb.cell (p := ⟨b, o + 8, none⟩) hlt).trans h8, (hb.cell (p := ⟨b, o + 9, none⟩) hlt).trans h9, (hb.cell (p := ⟨b, o + 10, none⟩) hlt).trans h10⟩
theorem EntAt.zero {w : World} {b : Nat} {x : Ent} (h : EntAt w b 0 x) : w.cell? ⟨b, 0, none⟩ = some (.string x.path) ∧ w.cell? ⟨b, 1, none⟩ = some (.int .i64 x.kind) ∧ w.cell? ⟨b, 2, none⟩ = some (.string x.target) ∧ w.cell? ⟨b, 3, none⟩ = some (.int .i64 x.mt.mode) ∧ w.cell? ⟨b, 4, none⟩ = some (.int .i64 x.mt.uid) ∧ w.cell? ⟨b, 5, none⟩ = some (.int .i64 x.mt.gid) ∧ w.cell? ⟨b, 6, none⟩ = some (.string x.mt.user) ∧ w.cell? ⟨b, 7, none⟩ = some (.string x.mt.group) ∧ w.cell? ⟨b, 8, none⟩ = some (.int .i64 x.mt.second) ∧ w.cell? ⟨b, 9, none⟩ = some (.int .i64 x.mt.nano) ∧ w.cell? ⟨b, 10, none⟩ = some (.slice x.da x.data.length x.dcap) := h
theorem EntsAt.below {w w' : World} {b off : Nat} {l : List Ent} (h : EntsAt w b off l) (hb : Below w.heap.size w w') : EntsAt w' b off l := fun i hi => (h i hi).below hb
theorem EntsAt.take {w : World} {b off : Nat} {l : List Ent} (h : EntsAt w b off l) (i : Nat) : EntsAt w b off (l.take i) := by
  intro j hj
  have hj' : j < i ∧ j < l.length := by simp at hj; omega
  rw [ek_take hj'.1]
  exact h j hj'.2
theorem Ent.Ok.below {N : Nat} {w w' : World} {x : Ent} (h : x.Ok N w) (hb : Below w.heap.size w w') : x.Ok N w' := ⟨h.path, h.kind, h.target, h.mt, h.data.below (fun _ _ h => h) hb⟩
theorem entAt_box (w : World) (x : Ent) (t : TypeId) : EntAt (w.alloc (.cells #[.string x.path, .int .i64 x.kind, .string x.target, .int .i64 x.mt.mode, .int .i64 x.mt.uid, .int .i64 x.mt.gid, .string x.mt.user, .string x.mt.group, .int .i64 x.mt.second, .int .i64 x.mt.nano, .slice x.da x.data.length x.dcap] t)) w.heap.size 0 x := by
  refine ⟨?_, ?_, ?_, ?_, ?_, ?_, ?_, ?_, ?_, ?_, ?_⟩ <;> simp [World.cell?_alloc_new]
theorem ents_cases {N : Nat} {w : World} {v : Value} {l : List Ent} (h : SliceC N 11 (EntC N) w [v] l) : (∃ a cap, v = .slice a 0 cap ∧ l = [] ∧ cap ≤ maxLen ∧ (a = none → cap = 0)) ∨
    ∃ b off cap, v = .slice (some ⟨b, off, none⟩) l.length cap ∧ 0 < l.length ∧ l.length ≤ cap ∧ cap ≤ maxLen ∧ l.length ≤ N ∧ EntsAt w b off l ∧ ∀ i, i < l.length → (ek l i).Ok N w := by
  obtain ⟨a, cap, hv, h1, h2, h3, h5, h4⟩ := h
  simp only [List.cons.injEq, and_true] at hv
  by_cases hl : 0 < l.length
  · obtain ⟨b, off, rfl, hc⟩ := h4 hl
    refine .inr ⟨b, off, cap, hv, hl, h1, h2, h3, fun i hi => ?_, fun i hi => ?_⟩
    · obtain ⟨c, _, hcc, hE, hn⟩ := hc i hi
      rw [ek_eq hi]
      subst hE
      refine ⟨?_, ?_, ?_, ?_, ?_, ?_, ?_, ?_, ?_, ?_, ?_⟩
      · exact hcc 0 (by omega)
      · exact hcc 1 (by omega)
      · exact hcc 2 (by omega)
      · exact hcc 3 (by omega)
      · exact hcc 4 (by omega)
      · exact hcc 5 (by omega)
      · exact hcc 6 (by omega)
      · exact hcc 7 (by omega)
      · exact hcc 8 (by omega)
      · exact hcc 9 (by omega)
      · exact hcc 10 (by omega)
    · obtain ⟨c, _, hcc, hE, hn⟩ := hc i hi
      rw [ek_eq hi]
      exact hn
  · have : l = [] := by
      cases l with
      | nil => rfl
      | cons x r => simp at hl
    subst this
    exact .inl ⟨a, cap, by simpa using hv, rfl, h2, h5⟩
/-- the place of a path: as many as there are, where there is none -/
def entFind : List Ent → ByteArray → Nat
  | [], _ => 0
  | x :: t, s => if x.path = s then 0 else entFind t s + 1
theorem entFind_le : ∀ (l : List Ent) (s : ByteArray), entFind l s ≤ l.length
  | [], _ => Nat.le_refl _
  | x :: t, s => by
    have := entFind_le t s
    unfold entFind
    split <;> simp <;> omega
theorem entFind_at : ∀ {l : List Ent} {s : ByteArray} {k : Nat}, k < l.length → (∀ j, j < k → (ek l j).path ≠ s) → (ek l k).path = s → entFind l s = k
  | [], _, _, h, _, _ => absurd h (by simp)
  | x :: t, s, 0, _, _, he => by unfold entFind; exact if_pos he
  | x :: t, s, k + 1, h, hn, he => by
    unfold entFind
    rw [if_neg (show x.path ≠ s from hn 0 (by omega)), entFind_at (k := k) (by simpa using h) (fun j hj => hn (j + 1) (by omega)) he]
theorem entFind_no : ∀ {l : List Ent} {s : ByteArray}, (∀ j, j < l.length → (ek l j).path ≠ s) → entFind l s = l.length
  | [], _, _ => rfl
  | x :: t, s, hn => by
    unfold entFind
    rw [if_neg (show x.path ≠ s from hn 0 (by simp)), entFind_no (fun j hj => hn (j + 1) (by simpa using hj))]
    rfl
theorem entFind_lt : ∀ {l : List Ent} {s : ByteArray}, entFind l s < l.length → (ek l (entFind l s)).path = s
  | [], _, h => absurd h (by simp)
  | x :: t, s, h => by
    unfold entFind at h ⊢
    by_cases e : x.path = s
    · rw [if_pos e]; exact e
    · rw [if_neg e] at h ⊢
      have h' : entFind t s < t.length := by simp at h; omega
      exact entFind_lt h'
theorem entFind_ne : ∀ {l : List Ent} {s : ByteArray} {j : Nat}, j < entFind l s → (ek l j).path ≠ s
  | [], _, _, h => absurd h (by simp [entFind])
  | x :: t, s, j, h => by
    unfold entFind at h
    by_cases e : x.path = s
    · rw [if_pos e] at h; omega
    · rw [if_neg e] at h
      cases j with
      | zero => exact e
      | succ j => exact entFind_ne (l := t) (by omega)
/-- in the first k: -/
theorem entFind_take {l : List Ent} {s : ByteArray} {k : Nat} (hk : k < l.length) (h : entFind (l.take k) s < k) : entFind (l.take (k + 1)) s = entFind (l.take k) s := by
  have h1 := entFind_lt (l := l.take k) (s := s) (by rw [List.length_take]; omega)
  rw [ek_take h] at h1
  refine entFind_at (by rw [List.length_take]; omega) (fun j hj => ?_) (by rw [ek_take (by omega)]; exact h1)
  have := entFind_ne (l := l.take k) (s := s) hj
  rw [ek_take (by omega)] at this ⊢
  exact this
theorem entFind_not {l : List Ent} {s : ByteArray} {k : Nat} (hk : k ≤ l.length) (h : ¬ entFind (l.take k) s < k) : ∀ j, j < k → (ek l j).path ≠ s := by
  intro j hj
  have := entFind_ne (l := l.take k) (s := s) (j := j) (by omega)
  rwa [ek_take hj] at this
theorem entFind_none {l : List Ent} {s : ByteArray} {k : Nat} (hk : k ≤ l.length) (h : ∀ j, j < k → (ek l j).path ≠ s) : entFind (l.take k) s = k := by
  have hl : (l.take k).length = k := by rw [List.length_take]; omega
  have := entFind_no (l := l.take k) (s := s) (fun j hj => by rw [hl] at hj; rw [ek_take hj]; exact h j hj)
  rw [this, hl]
/-! ### The order of paths is one -/
theorem cmpS_zero {x y : ByteArray} : cmpS x y = 0 ↔ x = y := by
  rcases cmpS_cases x y with ⟨h1, h3⟩ | ⟨h1, h2, h3⟩ | ⟨h1, h2, h3⟩
  · rw [h3]
    refine ⟨fun e => (by cases e), fun e => ?_⟩
    subst e
    rw [Go.Proofs.bytesLess_eq] at h1
    exact absurd (of_decide_eq_true h1) (List.lt_irrefl _)
  · exact ⟨fun _ => toList_inj (by simpa using h2), fun _ => h3⟩
  · rw [h3]
    refine ⟨fun e => (by cases e), fun e => ?_⟩
    subst e
    simp at h2
theorem cmpS_neg {x y : ByteArray} : cmpS x y = -1 ↔ x.toList < y.toList := by
  rcases cmpS_cases x y with ⟨h1, h3⟩ | ⟨h1, h2, h3⟩ | ⟨h1, h2, h3⟩
  · rw [Go.Proofs.bytesLess_eq] at h1
    exact ⟨fun _ => of_decide_eq_true h1, fun _ => h3⟩
  · rw [h3]
    rw [Go.Proofs.bytesLess_eq] at h1
    exact ⟨fun e => (by cases e), fun e => absurd e (of_decide_eq_false h1)⟩
  · rw [h3]
    rw [Go.Proofs.bytesLess_eq] at h1
    exact ⟨fun e => (by cases e), fun e => absurd e (of_decide_eq_false h1)⟩
theorem cmpS_tr {x y z : ByteArray} (h1 : cmpS x y = -1) (h2 : cmpS y z = -1) : cmpS x z = -1 := cmpS_neg.2 (List.lt_trans (cmpS_neg.1 h1) (cmpS_neg.1 h2))
theorem cmpS_self (x : ByteArray) : cmpS x x = 0 := cmpS_zero.2 rfl
theorem ordP_self : ∀ X : List ByteArray, ordP X X = 0
  | [] => rfl
  | x :: X => by unfold ordP; rw [if_pos (cmpS_self x)]; exact ordP_self X
theorem ordP_cons {x y : ByteArray} {X Y : List ByteArray} : ordP (x :: X) (y :: Y) = if cmpS x y = 0 then ordP X Y else cmpS x y := rfl
theorem ordP_tr : ∀ {X Y Z : List ByteArray}, ordP X Y = -1 → ordP Y Z = -1 → ordP X Z = -1
  | [], [], _, h1, _ => by cases h1
  | [], _ :: _, [], _, h2 => by cases h2
  | [], _ :: _, _ :: _, _, _ => rfl
  | _ :: _, [], _, h1, _ => by cases h1
  | _ :: _, _ :: _, [], _, h2 => by cases h2
  | x :: X, y :: Y, z :: Z, h1, h2 => by
    rw [ordP_cons] at h1 h2 ⊢
    by_cases e1 : cmpS x y = 0
    · rw [if_pos e1] at h1
      obtain rfl := cmpS_zero.1 e1
      by_cases e2 : cmpS x z = 0
      · rw [if_pos e2] at h2 ⊢
        exact ordP_tr h1 h2
      · rw [if_neg e2] at h2 ⊢
        exact h2
    · rw [if_neg e1] at h1
      by_cases e2 : cmpS y z = 0
      · obtain rfl := cmpS_zero.1 e2
        rw [if_neg e1]
        exact h1
      · rw [if_neg e2] at h2
        have := cmpS_tr h1 h2
        rw [if_neg (by rw [this]; decide)]
        exact this
/-- paths in their order differ -/
theorem chain_ne {p : Nat → ByteArray} {k : Nat} (h : ∀ i, 0 < i → i ≤ k → ordP (pathParts (p (i - 1))) (pathParts (p i)) = -1) : ∀ j, j < k → p j ≠ p k := by
  have key : ∀ d j, j + d + 1 ≤ k → ordP (pathParts (p j)) (pathParts (p (j + d + 1))) = -1 := by
    intro d
    induction d with
    | zero => intro j hj; have := h (j + 1) (by omega) hj; simpa using this
    | succ d ih =>
      intro j hj
      have h1 := ih j (by omega)
      have h2 := h (j + d + 2) (by omega) (by omega)
      exact ordP_tr h1 (by simpa [Nat.add_assoc] using h2)
  intro j hj e
  have := key (k - j - 1) j (by omega)
  rw [show j + (k - j - 1) + 1 = k by omega, e, ordP_self] at this
  cases this
end Go.Creel
namespace Go.Proofs.YtaffgndickdbiaaGreatDoor
set_option linter.unusedVariables false
set_option linter.unusedSimpArgs false
open Go.Creel Go.RowKit Go.ChangeShapes
section
variable {H : Type} {enc : TypeId × Value → H} {W : World} {S : DataW H → Prop} {N : Nat}
theorem opens_Entries (hS : Bd H S N) : Opens enc Tryz.prog W S 32 (SliceC N 11 (EntC N)) := opens_slice hS Tryz.underlying32 (by kernel_rfl) (by decide) (opens_Entry hS)
end
set_option maxRecDepth 100000 in
theorem EntryAt_at (b off cap : Nat) (l : List Ent) (s : ByteArray) (w : World) (hle : l.length ≤ cap) (hm : cap ≤ maxLen) (hc : EntsAt w b off l) :
    Calls Tryz.prog 63 #[.slice (some ⟨b, off, none⟩) l.length cap, .string s] w fun e w' => e = .returned (.int .i64 (entFind l s)) ∧ w = w' := by
  unfold maxLen at hm
  have HC := Lib.hid hc
  clear hc
  go_enter Tryz.func63, Tryz.ntmps63
  go_wp2
  go_loop [5] (fun i => ∃ k : Nat, k ≤ l.length ∧ i = .int .i64 k ∧ Hid (∀ j, j < k → (ek l j).path ≠ s)) (fun i => l.length - (intOf i).toNat)
  case atStart => exact ⟨0, by omega, rfl, Lib.hid fun j hj => absurd hj (by omega)⟩
  case round =>
    obtain ⟨k, hk, rfl, HD⟩ := hrel
    by_cases hlt : k < l.length
    · obtain ⟨h0, _⟩ := HC.out k hlt
      by_cases he : (ek l k).path = s
      · have hb := seq_t he
        have HF := Lib.hid (entFind_at hlt HD.out he)
        clear he
        go_wp2
        go_ret
        exact ⟨ret_i (by rw [HF.out]), rfl⟩
      · have hb := seq_f he
        have HE := Lib.hid he
        clear he
        go_wp2
        go_round
        case rel => exact ⟨k + 1, by omega, by go_num, Lib.hid fun j hj => by
          by_cases e : j = k
          · rw [e]; exact HE.out
          · exact HD.out j (by omega)⟩
        case measure => simp [intOf]; omega
    · obtain rfl : k = l.length := by omega
      have HF := Lib.hid (entFind_no HD.out)
      go_wp2
      go_ret
      exact ⟨ret_i (by rw [HF.out]), rfl⟩
theorem ents_below {N : Nat} {w w' : World} {v : Value} {l : List Ent} (h : SliceC N 11 (EntC N) w [v] l) (hb : Below w.heap.size w w') : SliceC N 11 (EntC N) w' [v] l :=
  h.below (fun _ _ ⟨h1, h2⟩ => ⟨h1, h2.below hb⟩) hb
end Go.Proofs.YtaffgndickdbiaaGreatDoor
