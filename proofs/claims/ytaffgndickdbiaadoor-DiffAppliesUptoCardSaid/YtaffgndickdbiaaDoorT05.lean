/-
  Texts: Tree, NodsOwn, Alike, TreeSpec.
-/
import Derived.Test.YtaffgndickdbiaaDoorT04
set_option linter.unusedVariables false
set_option linter.unusedSimpArgs false
set_option linter.unusedSectionVars false
namespace Go.Creel
open Go.RowKit
def nodZ : Nod := ⟨.empty, 0, 0, .empty, ⟨0, 0, 0, .empty, .empty, 0, 0⟩, none, 0, []⟩
def nk (l : List Nod) (k : Nat) : Nod := l.getD k nodZ
theorem nk_eq {l : List Nod} {k : Nat} (h : k < l.length) : nk l k = l[k] := by simp [nk, List.getD_eq_getElem?_getD, List.getElem?_eq_getElem h]
theorem nk_take {l : List Nod} {i j : Nat} (h : j < i) : nk (l.take i) j = nk l j := by
  simp [nk, List.getD_eq_getElem?_getD, h]
def NodAt (w : World) (b o : Nat) (x : Nod) : Prop := w.cell? ⟨b, o, none⟩ = some (.string x.path) ∧ w.cell? ⟨b, o + 1, none⟩ = some (.int .i64 x.kind) ∧ w.cell? ⟨b, o + 2, none⟩ = some (.int .i64 x.same) ∧ w.cell? ⟨b, o + 3, none⟩ = some (.string x.target) ∧ w.cell? ⟨b, o + 4, none⟩ = some (.int .i64 x.mt.mode) ∧ w.cell? ⟨b, o + 5, none⟩ = some (.int .i64 x.mt.uid) ∧ w.cell? ⟨b, o + 6, none⟩ = some (.int .i64 x.mt.gid) ∧ w.cell? ⟨b, o + 7, none⟩ = some (.string x.mt.user) ∧ w.cell? ⟨b, o + 8, none⟩ = some (.string x.mt.group) ∧ w.cell? ⟨b, o + 9, none⟩ = some (.int .i64 x.mt.second) ∧ w.cell? ⟨b, o + 10, none⟩ = some (.int .i64 x.mt.nano) ∧ w.cell? ⟨b, o + 11, none⟩ = some (.slice x.da x.data.length x.dcap)
def NodsAt (w : World) (b off : Nat) (l : List Nod) : Prop := ∀ i, i < l.length → NodAt w b (off + i * 12) (nk l i)
theorem NodAt.lt {w : World} {b o : Nat} {x : Nod} (h : NodAt w b o x) : b < w.heap.size := World.block_lt_of_cell? w _ h.1
theorem NodAt.below {w w' : World} {b o : Nat} {x : Nod} (h : NodAt w b o x) (hb : Below w.heap.size w w') : NodAt w' b o x := by
  have hlt := h.lt
  obtain ⟨h0, h1, h2, h3, h4, h5, h6, h7, h8, h9, h10, h11⟩ := h
  exact ⟨(hb.cell (p := ⟨b, o, none⟩) hlt).trans h0, (hb.cell (p := ⟨b, o + 1, none⟩) hlt).trans h1, (hb.cell (p := ⟨b, o + 2, none⟩) hlt).trans h2, (hb.cell (p := ⟨b, o + 3, none⟩) hlt).trans h3, (hb.cell (p := ⟨b, o + 4, none⟩) hlt).trans h4, (hb.cell (p := ⟨b, o + 5, none⟩) hlt).trans h5, (hb.cell (p := ⟨b, o + 6, none⟩) hlt).trans h6, (hb.cell (p := ⟨b, o + 7, none⟩) hlt).trans h7, (hb.cell (p := ⟨b, o + 8, none⟩) hlt).trans h8, (hb.cell (p := ⟨b, o + 9, none⟩) hlt).trans h9, (hb.cell (p := ⟨b, o + 10, none⟩) hlt).trans h10, (hb.cell (p := ⟨b, o + 11, none⟩) hlt).trans h11⟩
theorem NodsAt.below {w w' : World} {b off : Nat} {l : List Nod} (h : NodsAt w b off l) (hb : Below w.heap.size w w') : NodsAt w' b off l := fun i hi => (h i hi).below hb
theorem NodsAt.take {w : World} {b off : Nat} {l : List Nod} (h : NodsAt w b off l) (i : Nat) : NodsAt w b off (l.take i) := by
  intro j hj
  have hj' : j < i ∧ j < l.length := by simp at hj; omega
  rw [nk_take hj'.1]
  exact h j hj'.2
theorem Nod.Ok.below {N : Nat} {w w' : World} {x : Nod} (h : x.Ok N w) (hb : Below w.heap.size w w') : x.Ok N w' := ⟨h.path, h.kind, h.same, h.target, h.mt, h.data.below (fun _ _ h => h) hb⟩
theorem nods_cases {N : Nat} {w : World} {v : Value} {l : List Nod} (h : SliceC N 12 (NodC N) w [v] l) : (∃ a cap, v = .slice a 0 cap ∧ l = [] ∧ cap ≤ maxLen ∧ (a = none → cap = 0)) ∨
    ∃ b off cap, v = .slice (some ⟨b, off, none⟩) l.length cap ∧ 0 < l.length ∧ l.length ≤ cap ∧ cap ≤ maxLen ∧ l.length ≤ N ∧ NodsAt w b off l ∧ ∀ i, i < l.length → (nk l i).Ok N w := by
  obtain ⟨a, cap, hv, h1, h2, h3, h5, h4⟩ := h
  simp only [List.cons.injEq, and_true] at hv
  by_cases hl : 0 < l.length
  · obtain ⟨b, off, rfl, hc⟩ := h4 hl
    refine .inr ⟨b, off, cap, hv, hl, h1, h2, h3, fun i hi => ?_, fun i hi => ?_⟩
    · obtain ⟨c, _, hcc, hE, hn⟩ := hc i hi
      rw [nk_eq hi]
      subst hE
      refine ⟨?_, ?_, ?_, ?_, ?_, ?_, ?_, ?_, ?_, ?_, ?_, ?_⟩
      · exact hcc 0 (by omega)
      · exact hcc 1 (by omega)
      · exact hcc 2 (by omega)
      · exact hcc 3 (by omega)
      · exact hcc 4 (by omega)
      · exact hcc 5 (by omega)
      · exact hcc 6 (by omega)
      · exact hcc 7 (by omega)
      · exact hcc 8 (by omega)
      · exact hcc 9 (by omega)
      · exact hcc 10 (by omega)
      · exact hcc 11 (by omega)
    · obtain ⟨c, _, hcc, hE, hn⟩ := hc i hi
      rw [nk_eq hi]
      exact hn
  · have : l = [] := by
      cases l with
      | nil => rfl
      | cons x r => simp at hl
    subst this
    exact .inl ⟨a, cap, by simpa using hv, rfl, h2, h5⟩
def treeFind : List Nod → ByteArray → Nat
  | [], _ => 0
  | x :: t, s => if x.path = s then 0 else treeFind t s + 1
theorem treeFind_le : ∀ (l : List Nod) (s : ByteArray), treeFind l s ≤ l.length
  | [], _ => Nat.le_refl _
  | x :: t, s => by
    have := treeFind_le t s
    unfold treeFind
    split <;> simp <;> omega
theorem treeFind_at : ∀ {l : List Nod} {s : ByteArray} {k : Nat}, k < l.length → (∀ j, j < k → (nk l j).path ≠ s) → (nk l k).path = s → treeFind l s = k
  | [], _, _, h, _, _ => absurd h (by simp)
  | x :: t, s, 0, _, _, he => by unfold treeFind; exact if_pos he
  | x :: t, s, k + 1, h, hn, he => by
    unfold treeFind
    rw [if_neg (show x.path ≠ s from hn 0 (by omega)), treeFind_at (k := k) (by simpa using h) (fun j hj => hn (j + 1) (by omega)) he]
theorem treeFind_no : ∀ {l : List Nod} {s : ByteArray}, (∀ j, j < l.length → (nk l j).path ≠ s) → treeFind l s = l.length
  | [], _, _ => rfl
  | x :: t, s, hn => by
    unfold treeFind
    rw [if_neg (show x.path ≠ s from hn 0 (by simp)), treeFind_no (fun j hj => hn (j + 1) (by simpa using hj))]
    rfl
end Go.Creel
namespace Go.Proofs.YtaffgndickdbiaaDoor
open Go.Creel Go.RowKit Go.ChangeShapes
section
variable {H : Type} {enc : TypeId × Value → H} {W : World} {S : DataW H → Prop} {N : Nat}
theorem opens_Nodes (hS : Bd H S N) : Opens enc Tryd.prog W S 22 (SliceC N 12 (NodC N)) := opens_slice hS Tryd.underlying22 (by kernel_rfl) (by decide) (opens_Node hS)
end
set_option maxRecDepth 100000 in
theorem TreeFind_at (b off cap : Nat) (l : List Nod) (s : ByteArray) (w : World) (hle : l.length ≤ cap) (hm : cap ≤ maxLen) (hc : NodsAt w b off l) :
    Calls Tryd.prog 34 #[.slice (some ⟨b, off, none⟩) l.length cap, .string s] w fun e w' => e = .returned (.int .i64 (treeFind l s)) ∧ w = w' := by
  unfold maxLen at hm
  have HC := Lib.hid hc
  clear hc
  go_enter Tryd.func34, Tryd.ntmps34
  go_wp2
  go_loop [5] (fun i => ∃ k : Nat, k ≤ l.length ∧ i = .int .i64 k ∧ Hid (∀ j, j < k → (nk l j).path ≠ s)) (fun i => l.length - (intOf i).toNat)
  case atStart => exact ⟨0, by omega, rfl, Lib.hid fun j hj => absurd hj (by omega)⟩
  case round =>
    obtain ⟨k, hk, rfl, HD⟩ := hrel
    by_cases hlt : k < l.length
    · obtain ⟨h0, _⟩ := HC.out k hlt
      by_cases he : (nk l k).path = s
      · have hb := seq_t he
        have HF := Lib.hid (treeFind_at hlt HD.out he)
        clear he
        go_wp2
        go_ret
        exact ⟨ret_i (by rw [HF.out]), rfl⟩
      · have hb := seq_f he
        have HE := Lib.hid he
        clear he
        go_wp2
        go_round
        case rel => exact ⟨k + 1, by omega, by go_num, Lib.hid fun j hj => by
          by_cases e : j = k
          · rw [e]; exact HE.out
          · exact HD.out j (by omega)⟩
        case measure => simp [intOf]; omega
    · obtain rfl : k = l.length := by omega
      have HF := Lib.hid (treeFind_no HD.out)
      go_wp2
      go_ret
      exact ⟨ret_i (by rw [HF.out]), rfl⟩
set_option maxRecDepth 100000 in
theorem TreeFind_nil (a : Option Addr) (cap : Nat) (s : ByteArray) (w : World) :
    Calls Tryd.prog 34 #[.slice a 0 cap, .string s] w fun e w' => e = .returned (.int .i64 0) ∧ w = w' := by
  go_enter Tryd.func34, Tryd.ntmps34
  go_wp2
  go_loop [5] (fun i => i = .int .i64 0) (fun i => 0)
  case atStart => rfl
  case round =>
    obtain rfl := hrel
    go_wp2
    go_ret
    exact ⟨rfl, rfl⟩
set_option maxRecDepth 100000 in
theorem Find1_any (x : Nod) (pb : Nat) (s : ByteArray) (w : World) (hc : w.cell? ⟨pb, 0, none⟩ = some (.string s)) (hlt : pb < w.heap.size) :
    Calls Tryd.prog 84 #[x.val, .pointer (some ⟨pb, 0, none⟩)] w fun e w' => e = .returned (.bool (x.path.toList == s.toList)) ∧ Below w.heap.size w w' := by
  have HB := Lib.hid fun o : Obj => (Below.refl w.heap.size w).alloc (Nat.le_refl _) o
  go_enter Tryd.func84, Tryd.ntmps84
  go_wp2
  go_ret
  exact ⟨rfl, HB.out _⟩
def idxOf (n len : Nat) : Int := if n < len then n else -1
set_option maxRecDepth 100000 in
set_option maxHeartbeats 1000000 in
theorem IndexFunc_at (b off cap : Nat) (l : List Nod) (pb : Nat) (s : ByteArray) (w : World) (hle : l.length ≤ cap) (hm : cap ≤ maxLen) (hc : NodsAt w b off l) (hp : w.cell? ⟨pb, 0, none⟩ = some (.string s)) (hlt : pb < w.heap.size) :
    Calls Tryd.prog 83 #[.slice (some ⟨b, off, none⟩) l.length cap, .func (.func 84) #[] #[.pointer (some ⟨pb, 0, none⟩)]] w fun e w' => e = .returned (.int .i64 (idxOf (treeFind l s) l.length)) ∧ Below w.heap.size w w' := by
  unfold maxLen at hm
  have HC := Lib.hid hc
  have HP := Lib.hid hp
  have HPL := Lib.hid hlt
  clear hc hp hlt
  go_enter Tryd.func83, Tryd.ntmps83
  go_wp2
  go_loopw [5, 8] (fun _ i wr => ∃ k : Nat, k ≤ l.length ∧ i = .int .i64 k ∧ Hid (∀ j, j < k → (nk l j).path ≠ s) ∧ Hid (Below w.heap.size w wr)) (fun _ i _ => l.length - (intOf i).toNat)
  case atStart => exact ⟨0, by omega, rfl, Lib.hid fun j hj => absurd hj (by omega), Lib.hid (Below.refl _ _)⟩
  case round =>
    obtain ⟨k, hk, rfl, HD, HB⟩ := hrel
    by_cases hlt : k < l.length
    · obtain ⟨h0, h1, h2, h3, h4, h5, h6, h7, h8, h9, h10, h11⟩ := (HC.out.below HB.out) k hlt
      have HFC := Lib.hid (Find1_any (nk l k) pb s wr ((HB.out.cell (p := ⟨pb, 0, none⟩) HPL.out).trans HP.out) (Nat.lt_of_lt_of_le HPL.out HB.out.size))
      have HAT := Lib.hid (fun e : (nk l k).path = s => treeFind_at hlt HD.out e)
      generalize hx : nk l k = x at HFC HAT h0 h1 h2 h3 h4 h5 h6 h7 h8 h9 h10 h11
      have HNE := Lib.hid (fun (h : x.path ≠ s) => show (nk l k).path ≠ s by rw [hx]; exact h)
      clear hx
      by_cases he : x.path = s
      · have hb := seq_t he
        have HF := Lib.hid (show idxOf (treeFind l s) l.length = k by rw [HAT.out he]; unfold idxOf; rw [if_pos hlt])
        clear he
        go_wp2_with (go_at_call 84; refine HFC.out.mono ?_; rintro e w' ⟨rfl, hb2⟩; have HB2 := Lib.hid (HB.out.trans (hb2.mono HB.out.size)); clear hb2)
        go_ret
        exact ⟨ret_i HF.out, HB2.out⟩
      · have hb := seq_f he
        have HE := Lib.hid he
        clear he
        go_wp2_with (go_at_call 84; refine HFC.out.mono ?_; rintro e w' ⟨rfl, hb2⟩; have HB2 := Lib.hid (HB.out.trans (hb2.mono HB.out.size)); clear hb2)
        go_roundw
        case rel => exact ⟨k + 1, by omega, by go_num, Lib.hid fun j hj => by
          by_cases e : j = k
          · rw [e]; exact HNE.out HE.out
          · exact HD.out j (by omega), HB2⟩
        case measure => simp [intOf]; omega
    · obtain rfl : k = l.length := by omega
      have HF := Lib.hid (show idxOf (treeFind l s) l.length = -1 by rw [treeFind_no HD.out]; unfold idxOf; rw [if_neg (by omega)])
      go_wp2
      go_ret
      exact ⟨ret_i HF.out, HB.out⟩
set_option maxRecDepth 100000 in
theorem IndexFunc_nil (a : Option Addr) (cap : Nat) (f : Value) (w : World) :
    Calls Tryd.prog 83 #[.slice a 0 cap, f] w fun e w' => e = .returned (.int .i64 (-1)) ∧ w = w' := by
  go_enter Tryd.func83, Tryd.ntmps83
  go_wp2
  go_loop [5, 8] (fun _ i => i = .int .i64 0) (fun _ i => 0)
  case atStart => rfl
  case round =>
    obtain rfl := hrel
    go_wp2
    go_ret
    exact ⟨rfl, rfl⟩
def findIE (n len : Nat) : Int × Int := if n < len then (n, 0) else (0, 5)
set_option maxRecDepth 100000 in
theorem Find_at (b off cap : Nat) (l : List Nod) (s : ByteArray) (w : World) (hle : l.length ≤ cap) (hm : cap ≤ maxLen) (hc : NodsAt w b off l) :
    Calls Tryd.prog 48 #[.slice (some ⟨b, off, none⟩) l.length cap, .string s] w fun e w' => e = .returned (.tuple #[.int .i64 (findIE (treeFind l s) l.length).1, .int .i64 (findIE (treeFind l s) l.length).2]) ∧ Below w.heap.size w w' := by
  have hb1 := (Below.refl w.heap.size w).alloc (Nat.le_refl _) (.cells #[.string s] 9)
  have HI := Lib.hid (IndexFunc_at b off cap l w.heap.size s (w.alloc (.cells #[.string s] 9)) hle hm (hc.below hb1) (by simp [World.cell?_alloc_new]) (by simp))
  have HB1 := Lib.hid hb1
  clear hc hb1
  unfold maxLen at hm
  by_cases h : treeFind l s < l.length
  · have HF := Lib.hid (show findIE (treeFind l s) l.length = (((treeFind l s : Nat) : Int), 0) by unfold findIE; rw [if_pos h])
    have HX := Lib.hid (show idxOf (treeFind l s) l.length = treeFind l s by unfold idxOf; rw [if_pos h])
    generalize treeFind l s = n at *
    clear h
    go_enter Tryd.func48, Tryd.ntmps48
    go_wp2_with (go_at_call 83; refine HI.out.mono ?_; rintro e w' ⟨rfl, hb2⟩; rw [HX.out]; have HB2 := Lib.hid (HB1.out.trans (hb2.mono HB1.out.size)); clear hb2)
    go_ret2
    exact ⟨ret_ii HF.out, HB2.out⟩
  · have HF := Lib.hid (show findIE (treeFind l s) l.length = (0, 5) by unfold findIE; rw [if_neg h])
    have HX := Lib.hid (show idxOf (treeFind l s) l.length = -1 by unfold idxOf; rw [if_neg h])
    generalize treeFind l s = n at *
    clear h
    go_enter Tryd.func48, Tryd.ntmps48
    go_wp2_with (go_at_call 83; refine HI.out.mono ?_; rintro e w' ⟨rfl, hb2⟩; rw [HX.out]; have HB2 := Lib.hid (HB1.out.trans (hb2.mono HB1.out.size)); clear hb2)
    go_ret2
    exact ⟨ret_ii HF.out, HB2.out⟩
set_option maxRecDepth 100000 in
theorem Find_nil (a : Option Addr) (cap : Nat) (s : ByteArray) (w : World) :
    Calls Tryd.prog 48 #[.slice a 0 cap, .string s] w fun e w' => e = .returned (.tuple #[.int .i64 0, .int .i64 5]) ∧ Below w.heap.size w w' := by
  have HB1 := Lib.hid ((Below.refl w.heap.size w).alloc (Nat.le_refl _) (.cells #[.string s] 9))
  go_enter Tryd.func48, Tryd.ntmps48
  go_wp2_with (go_at_call 83; refine (IndexFunc_nil _ _ _ _).mono ?_; rintro e w' ⟨rfl, rfl⟩)
  go_ret2
  exact ⟨rfl, HB1.out⟩
end Go.Proofs.YtaffgndickdbiaaDoor
namespace Go.Creel
open Go.RowKit
abbrev Nod.dat (x : Nod) : Value := .slice x.da x.data.length x.dcap
def Nod.bare (x : Nod) : Nod := { x with da := none, dcap := 0 }
def NodIn (w : World) (v : Value) (x : Nod) : Prop := x.Ok maxLen w ∧ ∀ a, 0 < x.data.length → x.da = some a → v.ownBlock ≠ some a.block
def OwnNods (t : TypeId) (w : World) (B : Nat) (v : Value) (l : List Nod) : Prop := w.ownsRow B t 12 v l.length (l.flatMap Nod.cells) ∧ ∀ x, x ∈ l → NodIn w v x
theorem Nod.cells_len (x : Nod) : x.cells.length = 12 := rfl
theorem flat_len : ∀ l : List Nod, (l.flatMap Nod.cells).length = l.length * 12
  | [] => rfl
  | x :: r => by rw [List.flatMap_cons, List.length_append, flat_len r, Nod.cells_len, List.length_cons]; omega
theorem flat_at : ∀ (l : List Nod) (k j : Nat), k < l.length → j < 12 → (l.flatMap Nod.cells)[k * 12 + j]? = (nk l k).cells[j]?
  | [], _, _, h, _ => absurd h (by simp)
  | x :: r, 0, j, _, hj => by
    rw [List.flatMap_cons, Nat.zero_mul, Nat.zero_add, List.getElem?_append_left (by rw [Nod.cells_len]; omega)]
    rfl
  | x :: r, k + 1, j, hk, hj => by
    rw [List.flatMap_cons, List.getElem?_append_right (by rw [Nod.cells_len]; omega), Nod.cells_len]
    have e : (k + 1) * 12 + j - 12 = k * 12 + j := by omega
    rw [e, flat_at r k j (by simpa using hk) hj]
    rfl
theorem flat_set : ∀ (l : List Nod) (k j : Nat) (y : Nod) (u : Value), k < l.length → j < 12 → y.cells = (nk l k).cells.set j u → (l.flatMap Nod.cells).set (k * 12 + j) u = (l.set k y).flatMap Nod.cells
  | [], _, _, _, _, h, _, _ => absurd h (by simp)
  | x :: r, 0, j, y, u, _, hj, hy => by
    rw [List.flatMap_cons, Nat.zero_mul, Nat.zero_add, List.set_append_left _ _ (by rw [Nod.cells_len]; omega), List.set_cons_zero, List.flatMap_cons, hy]
    rfl
  | x :: r, k + 1, j, y, u, hk, hj, hy => by
    rw [List.flatMap_cons, List.set_append_right _ _ (by rw [Nod.cells_len]; omega), Nod.cells_len]
    have e : (k + 1) * 12 + j - 12 = k * 12 + j := by omega
    rw [e, flat_set r k j y u (by simpa using hk) hj hy, List.set_cons_succ, List.flatMap_cons]
theorem ownsRow_below {w w' : World} {B size n : Nat} {t : TypeId} {v : Value} {xs : List Value} (h : w.ownsRow B t size v n xs) (hb : Below w.heap.size w w') : w'.ownsRow B t size v n xs := by
  refine ⟨h.1, ?_⟩
  rcases h.2 with h0 | ⟨g, cap, cur, hv, hbg, hg, r⟩
  · exact .inl h0
  · refine .inr ⟨g, cap, cur, hv, hbg, ?_, r⟩
    rw [hb.block g (Array.getElem?_eq_some_iff.1 hg).1]
    exact hg
theorem bytesC_grown {w w' : World} {row : Option Nat} {a : Option Addr} {cap : Nat} {l : List UInt8} (h : SliceC maxLen 1 ByteC w [.slice a l.length cap] l) (hg : w.grownBy w' row) (hne : ∀ p, 0 < l.length → a = some p → row ≠ some p.block) : SliceC maxLen 1 ByteC w' [.slice a l.length cap] l := by
  obtain ⟨a', cap', hv, h1, h2, h3, h5, h4⟩ := h
  simp only [List.cons.injEq, Value.slice.injEq, and_true, true_and] at hv
  obtain ⟨rfl, rfl⟩ := hv
  refine ⟨a, cap, rfl, h1, h2, h3, h5, fun hl => ?_⟩
  obtain ⟨b, off, rfl, hc⟩ := h4 hl
  refine ⟨b, off, rfl, fun i hi => ?_⟩
  obtain ⟨c, hcl, hcc, hE⟩ := hc i hi
  refine ⟨c, hcl, fun j hj => ?_, hE⟩
  have hx := hcc j hj
  obtain ⟨u, hu⟩ : ∃ u, c[j]? = some u := ⟨c[j], List.getElem?_eq_getElem (by omega)⟩
  rw [hu] at hx ⊢
  exact hg.cell hx (fun e => hne _ hl rfl e.symm)
theorem bytesC_lt {w : World} {a : Option Addr} {cap : Nat} {l : List UInt8} (h : SliceC maxLen 1 ByteC w [.slice a l.length cap] l) (p : Addr) (hl : 0 < l.length) (hp : a = some p) : p.block < w.heap.size := by
  obtain ⟨a', cap', hv, h1, h2, h3, h5, h4⟩ := h
  simp only [List.cons.injEq, Value.slice.injEq, and_true, true_and] at hv
  obtain ⟨rfl, rfl⟩ := hv
  obtain ⟨b, off, he, hc⟩ := h4 hl
  obtain ⟨c, hcl, hcc, hE⟩ := hc 0 hl
  have hx := hcc 0 (by omega)
  rw [List.getElem?_eq_getElem (by omega)] at hx
  rw [hp] at he
  cases he
  exact World.block_lt_of_cell? w ⟨b, _, none⟩ hx
theorem Nod.Ok.grown {w w' : World} {x : Nod} {row : Option Nat} (h : x.Ok maxLen w) (hg : w.grownBy w' row) (hne : ∀ p, 0 < x.data.length → x.da = some p → row ≠ some p.block) : x.Ok maxLen w' :=
  ⟨h.path, h.kind, h.same, h.target, h.mt, bytesC_grown h.data hg hne⟩
theorem Nod.Ok.lt {w : World} {x : Nod} (h : x.Ok maxLen w) (p : Addr) (hl : 0 < x.data.length) (hp : x.da = some p) : p.block < w.heap.size := bytesC_lt h.data p hl hp
section
variable {t : TypeId} {w w' : World} {B : Nat} {v v' : Value} {l m : List Nod}
theorem NodIn.below {x : Nod} (h : NodIn w v x) (hb : Below w.heap.size w w') : NodIn w' v x := ⟨h.1.below hb, h.2⟩
theorem OwnNods.nil (t : TypeId) (w : World) (B : Nat) : OwnNods t w B (.slice none 0 0) [] := ⟨World.ownsRow_nil w B t 12, fun x hx => absurd hx (by simp)⟩
theorem OwnNods.below (h : OwnNods t w B v l) (hb : Below w.heap.size w w') : OwnNods t w' B v l := ⟨ownsRow_below h.1 hb, fun x hx => (h.2 x hx).below hb⟩
theorem OwnNods.mono {B' : Nat} (h : OwnNods t w B v l) (hb : B' ≤ B) : OwnNods t w B' v l := by
  refine ⟨⟨h.1.1, ?_⟩, h.2⟩
  rcases h.1.2 with ⟨rfl, h0⟩ | ⟨g, cap, cur, rfl, hbg, r⟩
  · exact .inl ⟨rfl, h0⟩
  · exact .inr ⟨g, cap, cur, rfl, Nat.le_trans hb hbg, r⟩
theorem OwnNods.slice (h : OwnNods t w B v l) (hl : l.length ≤ maxLen) : SliceC maxLen 12 (NodC maxLen) w [v] l := by
  rcases h.1.2 with ⟨rfl, h0⟩ | ⟨g, cap, cur, rfl, hbg, hg, hnc, hcm, hcs, htake⟩
  · obtain rfl := List.eq_nil_of_length_eq_zero h0
    exact ⟨none, 0, rfl, by simp, by simp, by simp, fun _ => rfl, fun h => absurd h (by simp)⟩
  · refine ⟨some ⟨g, 0, none⟩, cap, rfl, hnc, hcm, hl, (fun h => by cases h), fun _ => ⟨g, 0, rfl, fun i hi => ⟨(l[i]).cells, rfl, fun j hj => ?_, rfl, (h.2 _ (List.getElem_mem hi)).1⟩⟩⟩
    rw [Nat.zero_add, h.1.cellAt _ (by omega), flat_at l i j hi hj, nk_eq hi]
theorem OwnNods.form (h : OwnNods t w B v l) : (v = .slice none 0 0 ∧ l = []) ∨ ∃ g cap, v = .slice (some ⟨g, 0, none⟩) l.length cap ∧ B ≤ g ∧ g < w.heap.size ∧ l.length ≤ cap ∧ cap ≤ maxLen := by
  rcases h.1.2 with ⟨rfl, h0⟩ | ⟨g, cap, cur, rfl, hbg, hg, hnc, hcm, hcs, htake⟩
  · exact .inl ⟨rfl, List.eq_nil_of_length_eq_zero h0⟩
  · exact .inr ⟨g, cap, rfl, hbg, (Array.getElem?_eq_some_iff.1 hg).1, hnc, hcm⟩
theorem OwnNods.nodAt {g cap : Nat} (h : OwnNods t w B (.slice (some ⟨g, 0, none⟩) l.length cap) l) {k : Nat} (hk : k < l.length) : NodAt w g (k * 12) (nk l k) := by
  have c := fun j hj => (h.1.cellAt (k * 12 + j) (by omega)).trans (flat_at l k j hk hj)
  exact ⟨c 0 (by omega), c 1 (by omega), c 2 (by omega), c 3 (by omega), c 4 (by omega), c 5 (by omega), c 6 (by omega), c 7 (by omega), c 8 (by omega), c 9 (by omega), c 10 (by omega), c 11 (by omega)⟩
theorem OwnNods.nodIn (h : OwnNods t w B v l) {k : Nat} (hk : k < l.length) : NodIn w v (nk l k) := by
  rw [nk_eq hk]
  exact h.2 _ (List.getElem_mem hk)
theorem OwnNods.app (h : OwnNods t w B v l) (hm : ∀ x, x ∈ m → NodIn w v x) (ho : w'.ownsRow B t 12 v' (l.length + m.length) (l.flatMap Nod.cells ++ m.flatMap Nod.cells)) (hg : w.grownBy w' v.ownBlock)
    (hv : v'.ownBlock = v.ownBlock ∨ ∃ b, v'.ownBlock = some b ∧ w.heap.size ≤ b) : OwnNods t w' B v' (l ++ m) := by
  refine ⟨by rw [List.length_append, List.flatMap_append]; exact ho, fun x hx => ?_⟩
  have hin : NodIn w v x := by
    rcases List.mem_append.1 hx with a | a
    · exact h.2 x a
    · exact hm x a
  refine ⟨hin.1.grown hg hin.2, fun a hp ha => ?_⟩
  rcases hv with e | ⟨b, e, hb⟩
  · rw [e]; exact hin.2 a hp ha
  · rw [e]
    intro e2
    have h3 := hin.1.lt a hp ha
    simp only [Option.some.injEq] at e2
    omega
theorem OwnNods.put {g cap k j : Nat} (h : OwnNods t w B (.slice (some ⟨g, 0, none⟩) l.length cap) l) (hk : k < l.length) (hj : j < 12) (y : Nod) (u : Value) (hy : y.cells = (nk l k).cells.set j u)
    (hin : NodIn w (.slice (some ⟨g, 0, none⟩) l.length cap) y) : OwnNods t (w.setCell ⟨g, k * 12 + j, none⟩ u) B (.slice (some ⟨g, 0, none⟩) l.length cap) (l.set k y) ∧ w.grownBy (w.setCell ⟨g, k * 12 + j, none⟩ u) (some g) := by
  obtain ⟨h1, h2⟩ := h.1.stored (k * 12 + j) u
  refine ⟨⟨?_, fun x hx => ?_⟩, h2⟩
  · rw [flat_set l k j y u hk hj hy] at h1
    rw [List.length_set]
    exact h1
  · have hin' : NodIn w (.slice (some ⟨g, 0, none⟩) l.length cap) x := by
      rcases List.mem_or_eq_of_mem_set hx with a | a
      · exact h.2 x a
      · rw [a]; exact hin
    exact ⟨hin'.1.grown h2 hin'.2, hin'.2⟩
end
theorem src_nod {P : Program} (w : World) (tx e' e : TypeId) (hk : P.underlying tx = some (.slice e')) (x : Nod) : Src P 12 tx (.slice (some ⟨w.heap.size, 0, none⟩) 1 1) 1 ([x].flatMap Nod.cells) (w.alloc (.cells #[.string x.path, .int .i64 x.kind, .int .i64 x.same, .string x.target, .int .i64 x.mt.mode, .int .i64 x.mt.uid, .int .i64 x.mt.gid, .string x.mt.user, .string x.mt.group, .int .i64 x.mt.second, .int .i64 x.mt.nano, .slice x.da x.data.length x.dcap] e)) := by
  refine Src.ofSlice _ hk ⟨w.heap.size, 0, none⟩ 1 1 _ rfl (fun j u hu => ?_) (fun u hu => ?_)
  · have hj : j < 12 := by
      rcases Nat.lt_or_ge j 12 with h | h
      · exact h
      · rw [List.getElem?_eq_none (by simpa [Nod.cells] using h)] at hu; cases hu
    have e : (⟨w.heap.size, 0, none⟩ : Addr).add j = ⟨w.heap.size, j, none⟩ := by unfold Addr.add; split <;> simp_all
    rw [e, World.cell?_alloc_new]
    simpa [Nod.cells] using hu
  · simp [Nod.cells] at hu
    rcases hu with rfl | rfl | rfl | rfl | rfl | rfl | rfl | rfl | rfl | rfl | rfl | rfl <;> rfl
def RetT (t : TypeId) (w : World) (l : List Nod) (e : Ending) (w' : World) : Prop := ∃ v l', e = .returned v ∧ OwnNods t w' w.heap.size v l' ∧ l'.map Nod.bare = l.map Nod.bare ∧ Below w.heap.size w w'
def RetTE (t : TypeId) (w : World) (p : List Nod × Int) (e : Ending) (w' : World) : Prop := ∃ v l', e = .returned (.tuple #[v, .int .i64 p.2]) ∧ OwnNods t w' w.heap.size v l' ∧ l'.map Nod.bare = p.1.map Nod.bare ∧ Below w.heap.size w w'
open Go.RowKit
open Classical in
noncomputable def likeB (x y : Nod) : Bool := decide (x.mt = y.mt ∧ x.data = y.data)
theorem likeB_t {x y : Nod} (h1 : x.mt = y.mt) (h2 : x.data = y.data) : likeB x y = true := by unfold likeB; simp [h1, h2]
theorem likeB_m {x y : Nod} (h1 : x.mt ≠ y.mt) : likeB x y = false := by unfold likeB; simp [h1]
theorem likeB_d {x y : Nod} (h1 : x.data ≠ y.data) : likeB x y = false := by unfold likeB; simp [h1]
theorem likeB_iff {x y : Nod} : likeB x y = true ↔ x.mt = y.mt ∧ x.data = y.data := by unfold likeB; simp
theorem meta_same {x y : Meta} (h0 : x.mode = y.mode) (h1 : x.uid = y.uid) (h2 : x.gid = y.gid) (h3 : x.user.toList = y.user.toList) (h4 : x.group.toList = y.group.toList) (h5 : x.second = y.second) (h6 : x.nano = y.nano) : x = y := by
  obtain ⟨a, b, c, d, e, f, g⟩ := x
  obtain ⟨a', b', c', d', e', f', g'⟩ := y
  simp only at *
  rw [h0, h1, h2, toList_inj h3, toList_inj h4, h5, h6]
theorem meta_cases {x y : Meta} (h : x ≠ y) : (¬ x.mode = y.mode) ∨ (x.mode = y.mode ∧ ¬ x.uid = y.uid) ∨ (x.mode = y.mode ∧ x.uid = y.uid ∧ ¬ x.gid = y.gid) ∨ (x.mode = y.mode ∧ x.uid = y.uid ∧ x.gid = y.gid ∧ ¬ x.user.toList = y.user.toList) ∨
    (x.mode = y.mode ∧ x.uid = y.uid ∧ x.gid = y.gid ∧ x.user.toList = y.user.toList ∧ ¬ x.group.toList = y.group.toList) ∨ (x.mode = y.mode ∧ x.uid = y.uid ∧ x.gid = y.gid ∧ x.user.toList = y.user.toList ∧ x.group.toList = y.group.toList ∧ ¬ x.second = y.second) ∨
    (x.mode = y.mode ∧ x.uid = y.uid ∧ x.gid = y.gid ∧ x.user.toList = y.user.toList ∧ x.group.toList = y.group.toList ∧ x.second = y.second ∧ ¬ x.nano = y.nano) := by
  by_cases h0 : x.mode = y.mode
  · by_cases h1 : x.uid = y.uid
    · by_cases h2 : x.gid = y.gid
      · by_cases h3 : x.user.toList = y.user.toList
        · by_cases h4 : x.group.toList = y.group.toList
          · by_cases h5 : x.second = y.second
            · by_cases h6 : x.nano = y.nano
              · exact absurd (meta_same h0 h1 h2 h3 h4 h5 h6) h
              · simp [h0, h1, h2, h3, h4, h5, h6]
            · simp [h0, h1, h2, h3, h4, h5]
          · simp [h0, h1, h2, h3, h4]
        · simp [h0, h1, h2, h3]
      · simp [h0, h1, h2]
    · simp [h0, h1]
  · simp [h0]
end Go.Creel
namespace Go.Proofs.YtaffgndickdbiaaDoor
open Go.Creel Go.RowKit
theorem conv2 (w : World) {N : Nat} {v : Value} {l : List UInt8} (h : SliceC N 1 ByteC w [v] l) (o1 o2 : Obj) : (convert 38 9 v).run Tryd.prog ((w.alloc o1).alloc o2) = .ok (.string (ofL l)) ((w.alloc o1).alloc o2) :=
  conv _ (h.below (fun _ _ h => h) (((Below.refl _ _).alloc (Nat.le_refl _) _).alloc (by simp) _))
set_option maxRecDepth 100000 in
set_option maxHeartbeats 1000000 in
theorem Alike_any {N : Nat} (x y : Nod) (w : World) (hx : SliceC N 1 ByteC w [.slice x.da x.data.length x.dcap] x.data) (hy : SliceC N 1 ByteC w [.slice y.da y.data.length y.dcap] y.data) :
    Calls Tryd.prog 71 #[x.val, y.val] w fun e w' => e = .returned (.bool (likeB x y)) ∧ Below w.heap.size w w' := by
  have HB := Lib.hid fun o1 o2 : Obj => ((Below.refl w.heap.size w).alloc (Nat.le_refl _) o1).alloc (by simp) o2
  have cx := conv2 w hx
  have cy := conv2 w hy
  clear hx hy
  by_cases hm : x.mt = y.mt
  · obtain ⟨p, k, s, t, m, da, dc, d⟩ := x
    obtain ⟨p', k', s', t', m', da', dc', d'⟩ := y
    obtain rfl : m = m' := hm
    by_cases hd : d = d'
    · have HF := Lib.hid (likeB_t (x := ⟨p, k, s, t, m, da, dc, d⟩) (y := ⟨p', k', s', t', m, da', dc', d'⟩) rfl hd)
      have he : ((ofL d).toList == (ofL d').toList) = true := by rw [hd]; simp
      clear hd
      go_enter Tryd.func71, Tryd.ntmps71
      go_wp2
      all_goals first
        | (exfalso; simp_all; done)
        | (go_ret; exact ⟨ret_b HF.out, HB.out _ _⟩)
    · have HF := Lib.hid (likeB_d (x := ⟨p, k, s, t, m, da, dc, d⟩) (y := ⟨p', k', s', t', m, da', dc', d'⟩) hd)
      have he : ((ofL d).toList == (ofL d').toList) = false := seq_f (fun e => hd (ofL_inj e))
      clear hd
      go_enter Tryd.func71, Tryd.ntmps71
      go_wp2
      all_goals first
        | (exfalso; simp_all; done)
        | (go_ret; exact ⟨ret_b HF.out, HB.out _ _⟩)
  · have HF := Lib.hid (likeB_m hm)
    have HM := Lib.hid hm
    clear hm
    go_enter Tryd.func71, Tryd.ntmps71
    go_wp2
    all_goals first
      | (exfalso; exact HM.out (meta_same (by assumption) (by assumption) (by assumption) (by assumption) (by assumption) (by assumption) (by assumption)))
      | (go_ret; exact ⟨ret_b HF.out, HB.out _ _⟩)
end Go.Proofs.YtaffgndickdbiaaDoor
namespace Go.Creel
open Go.RowKit
open Classical in
noncomputable def stepF (l : List Nod) (i : Nat) : Int :=
  if ¬ nodFault (nk l i) = 0 then nodFault (nk l i)
  else if 0 < i ∧ ¬ ordP (pathParts (nk l (i - 1)).path) (pathParts (nk l i).path) = -1 then 6
  else if (pathUp (nk l i).path).size ≠ 0 ∧ ¬ (treeFind (l.take i) (pathUp (nk l i).path) < i ∧ (nk l (treeFind (l.take i) (pathUp (nk l i).path))).kind = 2) then 10
  else if (nk l i).same ≠ 0 ∧ ∃ k, k < i ∧ (nk l k).same = (nk l i).same ∧ likeB (nk l k) (nk l i) = false then 11
  else 0
open Classical in
noncomputable def treeFault (l : List Nod) : Int :=
  if 40 < l.length then 1 else if h : ∃ k, k < l.length ∧ stepF l k ≠ 0 ∧ ∀ j, j < k → stepF l j = 0 then stepF l (Classical.choose h) else 0
theorem treeFault_many {l : List Nod} (h : 40 < l.length) : treeFault l = 1 := by unfold treeFault; rw [if_pos h]
theorem treeFault_at {l : List Nod} {k : Nat} {e : Int} (hl : l.length ≤ 40) (hk : k < l.length) (hz : ∀ j, j < k → stepF l j = 0) (he : stepF l k = e) (hne : e ≠ 0) : treeFault l = e := by
  have hex : ∃ k, k < l.length ∧ stepF l k ≠ 0 ∧ ∀ j, j < k → stepF l j = 0 := ⟨k, hk, by rw [he]; exact hne, hz⟩
  unfold treeFault
  rw [if_neg (by omega), dif_pos hex]
  obtain ⟨h1, h2, h3⟩ := Classical.choose_spec hex
  have : Classical.choose hex = k := by
    rcases Nat.lt_trichotomy (Classical.choose hex) k with h | h | h
    · exact absurd (hz _ h) h2
    · exact h
    · exact absurd (h3 _ h) (by rw [he]; exact hne)
  rw [this, he]
theorem treeFault_ok {l : List Nod} (hl : l.length ≤ 40) (hz : ∀ j, j < l.length → stepF l j = 0) : treeFault l = 0 := by
  unfold treeFault
  rw [if_neg (by omega), dif_neg (by rintro ⟨k, h1, h2, _⟩; exact h2 (hz k h1))]
theorem stepF_nod {l : List Nod} {i : Nat} (h : ¬ nodFault (nk l i) = 0) : stepF l i = nodFault (nk l i) := by unfold stepF; rw [if_pos h]
theorem stepF_ord {l : List Nod} {i : Nat} (h : nodFault (nk l i) = 0) (h1 : 0 < i) (h2 : ¬ ordP (pathParts (nk l (i - 1)).path) (pathParts (nk l i).path) = -1) : stepF l i = 6 := by
  unfold stepF; rw [if_neg (by simpa using h), if_pos ⟨h1, h2⟩]
def OrdOk (l : List Nod) (i : Nat) : Prop := 0 < i → ordP (pathParts (nk l (i - 1)).path) (pathParts (nk l i).path) = -1
theorem stepF_up {l : List Nod} {i : Nat} (h : nodFault (nk l i) = 0) (h1 : OrdOk l i) (h2 : (pathUp (nk l i).path).size ≠ 0) (h3 : ¬ (treeFind (l.take i) (pathUp (nk l i).path) < i ∧ (nk l (treeFind (l.take i) (pathUp (nk l i).path))).kind = 2)) : stepF l i = 10 := by
  unfold stepF; rw [if_neg (by simpa using h), if_neg (fun e => e.2 (h1 e.1)), if_pos ⟨h2, h3⟩]
def UpOk (l : List Nod) (i : Nat) : Prop := (pathUp (nk l i).path).size ≠ 0 → treeFind (l.take i) (pathUp (nk l i).path) < i ∧ (nk l (treeFind (l.take i) (pathUp (nk l i).path))).kind = 2
theorem stepF_like {l : List Nod} {i k : Nat} (h : nodFault (nk l i) = 0) (h1 : OrdOk l i) (h2 : UpOk l i) (h3 : (nk l i).same ≠ 0) (hk : k < i) (h4 : (nk l k).same = (nk l i).same) (h5 : likeB (nk l k) (nk l i) = false) : stepF l i = 11 := by
  unfold stepF; rw [if_neg (by simpa using h), if_neg (fun e => e.2 (h1 e.1)), if_neg (fun e => e.2 (h2 e.1)), if_pos ⟨h3, k, hk, h4, h5⟩]
theorem stepF_ok {l : List Nod} {i : Nat} (h : nodFault (nk l i) = 0) (h1 : OrdOk l i) (h2 : UpOk l i) (h3 : (nk l i).same = 0 ∨ ∀ k, k < i → (nk l k).same = (nk l i).same → likeB (nk l k) (nk l i) = true) : stepF l i = 0 := by
  unfold stepF; rw [if_neg (by simpa using h), if_neg (fun e => e.2 (h1 e.1)), if_neg (fun e => e.2 (h2 e.1)), if_neg]
  rintro ⟨h4, k, hk, h5, h6⟩
  rcases h3 with h3 | h3
  · exact h4 h3
  · rw [h3 k hk h5] at h6; cases h6
theorem stepF_zero {l : List Nod} {i : Nat} (h : stepF l i = 0) : nodFault (nk l i) = 0 ∧ ((nk l i).same ≠ 0 → ∀ k, k < i → (nk l k).same = (nk l i).same → likeB (nk l k) (nk l i) = true) := by
  have h0 : nodFault (nk l i) = 0 := Classical.byContradiction fun e => e ((stepF_nod e).symm.trans h)
  refine ⟨h0, fun hs k hk he => ?_⟩
  cases hl : likeB (nk l k) (nk l i) with
  | true => rfl
  | false =>
    exfalso
    unfold stepF at h
    rw [if_neg (by simpa using h0)] at h
    split at h
    · cases h
    · split at h
      · cases h
      · rw [if_pos ⟨hs, k, hk, he, hl⟩] at h
        cases h
noncomputable def fstAt (l : List Nod) (i : Nat) (s : Int) : Option Nat := (List.range i).find? fun j => decide ((nk l j).same = s)
theorem fstAt_succ (l : List Nod) (i : Nat) (s : Int) : fstAt l (i + 1) s = (fstAt l i s).or (if (nk l i).same = s then some i else none) := by
  unfold fstAt
  rw [List.range_succ, List.find?_append]
  by_cases h : (nk l i).same = s
  · simp [h]
  · simp [h]
theorem fstAt_some {l : List Nod} {i j : Nat} {s : Int} (h : fstAt l i s = some j) : j < i ∧ (nk l j).same = s := by
  unfold fstAt at h
  have h1 := List.find?_some h
  have h2 := List.mem_of_find?_eq_some h
  simp at h1 h2
  exact ⟨h2, h1⟩
theorem fstAt_none {l : List Nod} {i : Nat} {s : Int} (h : fstAt l i s = none) : ∀ k, k < i → (nk l k).same ≠ s := by
  unfold fstAt at h
  intro k hk e
  have := List.find?_eq_none.1 h k (List.mem_range.2 hk)
  simp [e] at this
theorem like_all {l : List Nod} {i j : Nat} (hz : ∀ q, q < i → stepF l q = 0) (hs : (nk l i).same ≠ 0) (h : fstAt l i (nk l i).same = some j) (hl : likeB (nk l j) (nk l i) = true) : ∀ k, k < i → (nk l k).same = (nk l i).same → likeB (nk l k) (nk l i) = true := by
  intro k hk he
  obtain ⟨hj, hjs⟩ := fstAt_some h
  rcases Nat.lt_trichotomy k j with hkj | rfl | hkj
  · exfalso
    unfold fstAt at h
    have := (List.find?_range_eq_some.1 h).2.2 k hkj
    simp [he] at this
  · exact hl
  · have := (stepF_zero (hz k hk)).2 (by rw [he]; exact hs) j hkj (by rw [hjs, he])
    obtain ⟨a, b⟩ := likeB_iff.1 this
    obtain ⟨c, d⟩ := likeB_iff.1 hl
    exact likeB_t (a.symm.trans c) (b.symm.trans d)
theorem nodFault_path {x : Nod} (h : nodFault x = 0) : x.path.size ≤ 400 := by
  unfold nodFault nodFaultN at h
  have hp : pathFault x.path = 0 := Classical.byContradiction fun e => by rw [if_pos e] at h; exact e h
  refine Classical.byContradiction fun e => ?_
  have := pathFault_size (s := x.path) (.inr (by omega))
  rw [hp] at this
  cases this
theorem ordP_rangeT (X Y : List ByteArray) : ordP X Y = -1 ∨ ordP X Y = 0 ∨ ordP X Y = 1 := by
  induction X generalizing Y with
  | nil => cases Y <;> simp [ordP]
  | cons x X ih =>
    cases Y with
    | nil => simp [ordP]
    | cons y Y =>
      unfold ordP
      split
      · exact ih Y
      · rcases cmpS_cases x y with ⟨_, h⟩ | ⟨_, _, h⟩ | ⟨_, _, h⟩ <;> simp [h]
end Go.Creel
