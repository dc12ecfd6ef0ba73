/-
  Trees as lists of nodes: what a slice of nodes says of the cells; the place of a path.
-/
import Derived.Test.YtaffgndickdbiaaDoorNodSpec
import Derived.Test.YtaffgndickdbiaaDoorPathCmp
import Derived.Test.YtaffgndickdbiaaDoorPathSplit
import Derived.Test.YtaffgndickdbiaaDoorSame
namespace Go.Creel
set_option linter.unusedVariables false
open Go.RowKit
def nodZ : Nod := ⟨.empty, 0, 0, .empty, ⟨0, 0, 0, .empty, .empty, 0, 0⟩, none, 0, []⟩
def nk (l : List Nod) (k : Nat) : Nod := l.getD k nodZ
theorem nk_eq {l : List Nod} {k : Nat} (h : k < l.length) : nk l k = l[k] := by simp [nk, List.getD_eq_getElem?_getD, List.getElem?_eq_getElem h]
theorem nk_take {l : List Nod} {i j : Nat} (h : j < i) : nk (l.take i) j = nk l j := by
  simp [nk, List.getD_eq_getElem?_getD, h]
/-- the cells of a node -/
def NodAt (w : World) (b o : Nat) (x : Nod) : Prop := w.cell? ⟨b, o, none⟩ = some (.string x.path) ∧ w.cell? ⟨b, o + 1, none⟩ = some (.int .i64 x.kind) ∧ w.cell? ⟨b, o + 2, none⟩ = some (.int .i64 x.same) ∧ w.cell? ⟨b, o + 3, none⟩ = some (.string x.target) ∧ w.cell? ⟨b, o + 4, none⟩ = some (.int .i64 x.mt.mode) ∧ w.cell? ⟨b, o + 5, none⟩ = some (.int .i64 x.mt.uid) ∧ w.cell? ⟨b, o + 6, none⟩ = some (.int .i64 x.mt.gid) ∧ w.cell? ⟨b, o + 7, none⟩ = some (.string x.mt.user) ∧ w.cell? ⟨b, o + 8, none⟩ = some (.string x.mt.group) ∧ w.cell? ⟨b, o + 9, none⟩ = some (.int .i64 x.mt.second) ∧ w.cell? ⟨b, o + 10, none⟩ = some (.int .i64 x.mt.nano) ∧ w.cell? ⟨b, o + 11, none⟩ = some (.slice x.da x.data.length x.dcap)
def NodsAt (w : World) (b off : Nat) (l : List Nod) : Prop := ∀ i, i < l.length → NodAt w b (off + i * 12) (nk l i)
theorem NodAt.lt {w : World} {b o : Nat} {x : Nod} (h : NodAt w b o x) : b < w.heap.size := World.block_lt_of_cell? w _ h.1
theorem NodAt.below {w w' : World} {b o : Nat} {x : Nod} (h : NodAt w b o x) (hb : Below w.heap.size w w') : NodAt w' b o x := by
  have hlt := h.lt
  obtain ⟨h0, h1, h2, h3, h4, h5, h6, h7, h8, h9, h10, h11⟩ := h
  exact ⟨(hb.cell (p := ⟨b, o, none⟩) hlt).trans h0, (hb.cell (p := ⟨b, o + 1, none⟩) hlt).trans h1, (hb.cell (p := ⟨b, o + 2, none⟩) hlt).trans h2, (hb.cell (p := ⟨b, o + 3, none⟩) hlt).trans h3, (hb.cell (p := ⟨b, o + 4, none⟩) hlt).trans h4, (hb.cell (p := ⟨b, o + 5, none⟩) hlt).trans h5, (hb.cell (p := ⟨b, o + 6, none⟩) hlt).trans h6, (hb.cell (p := ⟨b, o + 7, none⟩) hlt).trans h7, (hb.cell (p := ⟨b, o + 8, none⟩) hlt).trans h8, (hb.cell (p := ⟨b, o + 9, none⟩) hlt).trans h9, (hb.cell (p := ⟨b, o + 10, none⟩) hlt).trans h10, (hb.cell (p := ⟨b, o + 11, none⟩) hlt).trans h11⟩
theorem NodsAt.below {w w' : World} {b off : Nat} {l : List Nod} (h : NodsAt w b off l) (hb : Below w.heap.size w w') : NodsAt w' b off l := fun i hi => (h i hi).below hb
theorem NodsAt.take {w : World} {b off : Nat} {l : List Nod} (h : NodsAt w b off l) (i : Nat) : NodsAt w b off (l.take i) := by
  intro j hj
  have hj' : j < i ∧ j < l.length := by simp at hj; omega
  rw [nk_take hj'.1]
  exact h j hj'.2
theorem Nod.Ok.below {N : Nat} {w w' : World} {x : Nod} (h : x.Ok N w) (hb : Below w.heap.size w w') : x.Ok N w' := ⟨h.path, h.kind, h.same, h.target, h.mt, h.data.below (fun _ _ h => h) hb⟩
theorem nods_cases {N : Nat} {w : World} {v : Value} {l : List Nod} (h : SliceC N 12 (NodC N) w [v] l) : (∃ a cap, v = .slice a 0 cap ∧ l = [] ∧ cap ≤ maxLen ∧ (a = none → cap = 0)) ∨
    ∃ b off cap, v = .slice (some ⟨b, off, none⟩) l.length cap ∧ 0 < l.length ∧ l.length ≤ cap ∧ cap ≤ maxLen ∧ l.length ≤ N ∧ NodsAt w b off l ∧ ∀ i, i < l.length → (nk l i).Ok N w := by
  obtain ⟨a, cap, hv, h1, h2, h3, h5, h4⟩ := h
  simp only [List.cons.injEq, and_true] at hv
  by_cases hl : 0 < l.length
  · obtain ⟨b, off, rfl, hc⟩ := h4 hl
    refine .inr ⟨b, off, cap, hv, hl, h1, h2, h3, fun i hi => ?_, fun i hi => ?_⟩
    · obtain ⟨c, _, hcc, hE, hn⟩ := hc i hi
      rw [nk_eq hi]
      subst hE
      refine ⟨?_, ?_, ?_, ?_, ?_, ?_, ?_, ?_, ?_, ?_, ?_, ?_⟩
      · exact hcc 0 (by omega)
      · exact hcc 1 (by omega)
      · exact hcc 2 (by omega)
      · exact hcc 3 (by omega)
      · exact hcc 4 (by omega)
      · exact hcc 5 (by omega)
      · exact hcc 6 (by omega)
      · exact hcc 7 (by omega)
      · exact hcc 8 (by omega)
      · exact hcc 9 (by omega)
      · exact hcc 10 (by omega)
      · exact hcc 11 (by omega)
    · obtain ⟨c, _, hcc, hE, hn⟩ := hc i hi
      rw [nk_eq hi]
      exact hn
  · have : l = [] := by
      cases l with
      | nil => rfl
      | cons x r => simp at hl
    subst this
    exact .inl ⟨a, cap, by simpa using hv, rfl, h2, h5⟩
/-- the place of a path: as many as there are, where there is none -/
def treeFind : List Nod → ByteArray → Nat
  | [], _ => 0
  | x :: t, s => if x.path = s then 0 else treeFind t s + 1
theorem treeFind_le : ∀ (l : List Nod) (s : ByteArray), treeFind l s ≤ l.length
  | [], _ => Nat.le_refl _
  | x :: t, s => by
    have := treeFind_le t s
    unfold treeFind
    split <;> simp <;> omega
theorem treeFind_at : ∀ {l : List Nod} {s : ByteArray} {k : Nat}, k < l.length → (∀ j, j < k → (nk l j).path ≠ s) → (nk l k).path = s → treeFind l s = k
  | [], _, _, h, _, _ => absurd h (by simp)
  | x :: t, s, 0, _, _, he => by unfold treeFind; exact if_pos he
  | x :: t, s, k + 1, h, hn, he => by
    unfold treeFind
    rw [if_neg (show x.path ≠ s from hn 0 (by omega)), treeFind_at (k := k) (by simpa using h) (fun j hj => hn (j + 1) (by omega)) he]
theorem treeFind_no : ∀ {l : List Nod} {s : ByteArray}, (∀ j, j < l.length → (nk l j).path ≠ s) → treeFind l s = l.length
  | [], _, _ => rfl
  | x :: t, s, hn => by
    unfold treeFind
    rw [if_neg (show x.path ≠ s from hn 0 (by simp)), treeFind_no (fun j hj => hn (j + 1) (by simpa using hj))]
    rfl
end Go.Creel
namespace Go.Proofs.YtaffgndickdbiaaDoor
set_option linter.unusedVariables false
set_option linter.unusedSimpArgs false
open Go.Creel Go.RowKit Go.ChangeShapes
section
variable {H : Type} {enc : TypeId × Value → H} {W : World} {S : DataW H → Prop} {N : Nat}
theorem opens_Nodes (hS : Bd H S N) : Opens enc Tryd.prog W S 22 (SliceC N 12 (NodC N)) := opens_slice hS Tryd.underlying22 (by kernel_rfl) (by decide) (opens_Node hS)
end
set_option maxRecDepth 100000 in
theorem TreeFind_at (b off cap : Nat) (l : List Nod) (s : ByteArray) (w : World) (hle : l.length ≤ cap) (hm : cap ≤ maxLen) (hc : NodsAt w b off l) :
    Calls Tryd.prog 34 #[.slice (some ⟨b, off, none⟩) l.length cap, .string s] w fun e w' => e = .returned (.int .i64 (treeFind l s)) ∧ w = w' := by
  unfold maxLen at hm
  have HC := Lib.hid hc
  clear hc
  go_enter Tryd.func34, Tryd.ntmps34
  go_wp2
  go_loop [5] (fun i => ∃ k : Nat, k ≤ l.length ∧ i = .int .i64 k ∧ Hid (∀ j, j < k → (nk l j).path ≠ s)) (fun i => l.length - (intOf i).toNat)
  case atStart => exact ⟨0, by omega, rfl, Lib.hid fun j hj => absurd hj (by omega)⟩
  case round =>
    obtain ⟨k, hk, rfl, HD⟩ := hrel
    by_cases hlt : k < l.length
    · obtain ⟨h0, _⟩ := HC.out k hlt
      by_cases he : (nk l k).path = s
      · have hb := seq_t he
        have HF := Lib.hid (treeFind_at hlt HD.out he)
        clear he
        go_wp2
        go_ret
        exact ⟨ret_i (by rw [HF.out]), rfl⟩
      · have hb := seq_f he
        have HE := Lib.hid he
        clear he
        go_wp2
        go_round
        case rel => exact ⟨k + 1, by omega, by go_num, Lib.hid fun j hj => by
          by_cases e : j = k
          · rw [e]; exact HE.out
          · exact HD.out j (by omega)⟩
        case measure => simp [intOf]; omega
    · obtain rfl : k = l.length := by omega
      have HF := Lib.hid (treeFind_no HD.out)
      go_wp2
      go_ret
      exact ⟨ret_i (by rw [HF.out]), rfl⟩
set_option maxRecDepth 100000 in
theorem TreeFind_nil (a : Option Addr) (cap : Nat) (s : ByteArray) (w : World) :
    Calls Tryd.prog 34 #[.slice a 0 cap, .string s] w fun e w' => e = .returned (.int .i64 0) ∧ w = w' := by
  go_enter Tryd.func34, Tryd.ntmps34
  go_wp2
  go_loop [5] (fun i => i = .int .i64 0) (fun i => 0)
  case atStart => rfl
  case round =>
    obtain rfl := hrel
    go_wp2
    go_ret
    exact ⟨rfl, rfl⟩
set_option maxRecDepth 100000 in
theorem Find1_any (x : Nod) (pb : Nat) (s : ByteArray) (w : World) (hc : w.cell? ⟨pb, 0, none⟩ = some (.string s)) (hlt : pb < w.heap.size) :
    Calls Tryd.prog 84 #[x.val, .pointer (some ⟨pb, 0, none⟩)] w fun e w' => e = .returned (.bool (x.path.toList == s.toList)) ∧ Below w.heap.size w w' := by
  have HB := Lib.hid fun o : Obj => (Below.refl w.heap.size w).alloc (Nat.le_refl _) o
  go_enter Tryd.func84, Tryd.ntmps84
  go_wp2
  go_ret
  exact ⟨rfl, HB.out _⟩
def idxOf (n len : Nat) : Int := if n < len then n else -1
set_option maxRecDepth 100000 in
set_option maxHeartbeats 1000000 in
theorem IndexFunc_at (b off cap : Nat) (l : List Nod) (pb : Nat) (s : ByteArray) (w : World) (hle : l.length ≤ cap) (hm : cap ≤ maxLen) (hc : NodsAt w b off l) (hp : w.cell? ⟨pb, 0, none⟩ = some (.string s)) (hlt : pb < w.heap.size) :
    Calls Tryd.prog 83 #[.slice (some ⟨b, off, none⟩) l.length cap, .func (.func 84) #[] #[.pointer (some ⟨pb, 0, none⟩)]] w fun e w' => e = .returned (.int .i64 (idxOf (treeFind l s) l.length)) ∧ Below w.heap.size w w' := by
  unfold maxLen at hm
  have HC := Lib.hid hc
  have HP := Lib.hid hp
  have HPL := Lib.hid hlt
  clear hc hp hlt
  go_enter Tryd.func83, Tryd.ntmps83
  go_wp2
  go_loopw [5, 8] (fun _ i wr => ∃ k : Nat, k ≤ l.length ∧ i = .int .i64 k ∧ Hid (∀ j, j < k → (nk l j).path ≠ s) ∧ Hid (Below w.heap.size w wr)) (fun _ i _ => l.length - (intOf i).toNat)
  case atStart => exact ⟨0, by omega, rfl, Lib.hid fun j hj => absurd hj (by omega), Lib.hid (Below.refl _ _)⟩
  case round =>
    obtain ⟨k, hk, rfl, HD, HB⟩ := hrel
    by_cases hlt : k < l.length
    · obtain ⟨h0, h1, h2, h3, h4, h5, h6, h7, h8, h9, h10, h11⟩ := (HC.out.below HB.out) k hlt
      have HFC := Lib.hid (Find1_any (nk l k) pb s wr ((HB.out.cell (p := ⟨pb, 0, none⟩) HPL.out).trans HP.out) (Nat.lt_of_lt_of_le HPL.out HB.out.size))
      have HAT := Lib.hid (fun e : (nk l k).path = s => treeFind_at hlt HD.out e)
      generalize hx : nk l k = x at HFC HAT h0 h1 h2 h3 h4 h5 h6 h7 h8 h9 h10 h11
      have HNE := Lib.hid (fun (h : x.path ≠ s) => show (nk l k).path ≠ s by rw [hx]; exact h)
      clear hx
      by_cases he : x.path = s
      · have hb := seq_t he
        have HF := Lib.hid (show idxOf (treeFind l s) l.length = k by rw [HAT.out he]; unfold idxOf; rw [if_pos hlt])
        clear he
        go_wp2_with (go_at_call 84; refine HFC.out.mono ?_; rintro e w' ⟨rfl, hb2⟩; have HB2 := Lib.hid (HB.out.trans (hb2.mono HB.out.size)); clear hb2)
        go_ret
        exact ⟨ret_i HF.out, HB2.out⟩
      · have hb := seq_f he
        have HE := Lib.hid he
        clear he
        go_wp2_with (go_at_call 84; refine HFC.out.mono ?_; rintro e w' ⟨rfl, hb2⟩; have HB2 := Lib.hid (HB.out.trans (hb2.mono HB.out.size)); clear hb2)
        go_roundw
        case rel => exact ⟨k + 1, by omega, by go_num, Lib.hid fun j hj => by
          by_cases e : j = k
          · rw [e]; exact HNE.out HE.out
          · exact HD.out j (by omega), HB2⟩
        case measure => simp [intOf]; omega
    · obtain rfl : k = l.length := by omega
      have HF := Lib.hid (show idxOf (treeFind l s) l.length = -1 by rw [treeFind_no HD.out]; unfold idxOf; rw [if_neg (by omega)])
      go_wp2
      go_ret
      exact ⟨ret_i HF.out, HB.out⟩
set_option maxRecDepth 100000 in
theorem IndexFunc_nil (a : Option Addr) (cap : Nat) (f : Value) (w : World) :
    Calls Tryd.prog 83 #[.slice a 0 cap, f] w fun e w' => e = .returned (.int .i64 (-1)) ∧ w = w' := by
  go_enter Tryd.func83, Tryd.ntmps83
  go_wp2
  go_loop [5, 8] (fun _ i => i = .int .i64 0) (fun _ i => 0)
  case atStart => rfl
  case round =>
    obtain rfl := hrel
    go_wp2
    go_ret
    exact ⟨rfl, rfl⟩
def findIE (n len : Nat) : Int × Int := if n < len then (n, 0) else (0, 5)
set_option maxRecDepth 100000 in
theorem Find_at (b off cap : Nat) (l : List Nod) (s : ByteArray) (w : World) (hle : l.length ≤ cap) (hm : cap ≤ maxLen) (hc : NodsAt w b off l) :
    Calls Tryd.prog 48 #[.slice (some ⟨b, off, none⟩) l.length cap, .string s] w fun e w' => e = .returned (.tuple #[.int .i64 (findIE (treeFind l s) l.length).1, .int .i64 (findIE (treeFind l s) l.length).2]) ∧ Below w.heap.size w w' := by
  have hb1 := (Below.refl w.heap.size w).alloc (Nat.le_refl _) (.cells #[.string s] 9)
  have HI := Lib.hid (IndexFunc_at b off cap l w.heap.size s (w.alloc (.cells #[.string s] 9)) hle hm (hc.below hb1) (by simp [World.cell?_alloc_new]) (by simp))
  have HB1 := Lib.hid hb1
  clear hc hb1
  unfold maxLen at hm
  by_cases h : treeFind l s < l.length
  · have HF := Lib.hid (show findIE (treeFind l s) l.length = (((treeFind l s : Nat) : Int), 0) by unfold findIE; rw [if_pos h])
    have HX := Lib.hid (show idxOf (treeFind l s) l.length = treeFind l s by unfold idxOf; rw [if_pos h])
    generalize treeFind l s = n at *
    clear h
    go_enter Tryd.func48, Tryd.ntmps48
    go_wp2_with (go_at_call 83; refine HI.out.mono ?_; rintro e w' ⟨rfl, hb2⟩; rw [HX.out]; have HB2 := Lib.hid (HB1.out.trans (hb2.mono HB1.out.size)); clear hb2)
    go_ret2
    exact ⟨ret_ii HF.out, HB2.out⟩
  · have HF := Lib.hid (show findIE (treeFind l s) l.length = (0, 5) by unfold findIE; rw [if_neg h])
    have HX := Lib.hid (show idxOf (treeFind l s) l.length = -1 by unfold idxOf; rw [if_neg h])
    generalize treeFind l s = n at *
    clear h
    go_enter Tryd.func48, Tryd.ntmps48
    go_wp2_with (go_at_call 83; refine HI.out.mono ?_; rintro e w' ⟨rfl, hb2⟩; rw [HX.out]; have HB2 := Lib.hid (HB1.out.trans (hb2.mono HB1.out.size)); clear hb2)
    go_ret2
    exact ⟨ret_ii HF.out, HB2.out⟩
set_option maxRecDepth 100000 in
theorem Find_nil (a : Option Addr) (cap : Nat) (s : ByteArray) (w : World) :
    Calls Tryd.prog 48 #[.slice a 0 cap, .string s] w fun e w' => e = .returned (.tuple #[.int .i64 0, .int .i64 5]) ∧ Below w.heap.size w w' := by
  have HB1 := Lib.hid ((Below.refl w.heap.size w).alloc (Nat.le_refl _) (.cells #[.string s] 9))
  go_enter Tryd.func48, Tryd.ntmps48
  go_wp2_with (go_at_call 83; refine (IndexFunc_nil _ _ _ _).mono ?_; rintro e w' ⟨rfl, rfl⟩)
  go_ret2
  exact ⟨rfl, HB1.out⟩
end Go.Proofs.YtaffgndickdbiaaDoor
