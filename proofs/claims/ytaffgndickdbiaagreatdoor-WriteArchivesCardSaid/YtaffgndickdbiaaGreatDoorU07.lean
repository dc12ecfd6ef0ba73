/-
  Texts: PathSplit, Same, Ents.
-/
import Derived.Test.YtaffgndickdbiaaGreatDoorU06
import Derived.Sort.Walk0
set_option linter.unusedVariables false
set_option linter.unusedSimpArgs false
set_option linter.unusedSectionVars false
namespace Go.Creel
open Go.RowKit
def upTo (P : List ByteArray) (k : Nat) : ByteArray := ofL (joinL ((P.take k).map fun p => p.data.toList))
theorem upTo_zero (P : List ByteArray) : upTo P 0 = ⟨#[]⟩ := by unfold upTo; simp [joinL]; rfl
theorem upTo_one {P : List ByteArray} (h : 0 < P.length) : upTo P 1 = ⟨#[]⟩ ++ piece P 0 := by
  unfold upTo
  rw [piece_eq h]
  cases P with
  | nil => simp at h
  | cons a t => 
    show ofL (joinL [a.data.toList]) = _
    simp only [joinL]
    apply ext_bytes
    rw [ofL_data]
    simp
theorem upTo_more {P : List ByteArray} {k : Nat} (h : k < P.length) (h0 : 0 < k) : upTo P (k + 1) = upTo P k ++ ofL [47] ++ piece P k := by
  unfold upTo
  rw [piece_eq h, List.take_succ_eq_append_getElem h, List.map_append, List.map_cons, List.map_nil, joinL_snoc, if_neg (by
    intro e
    have := congrArg List.length e
    rw [List.length_map, List.length_take, List.length_nil] at this
    omega)]
  apply ext_bytes
  rw [ofL_data]
  simp [ofL]
theorem upTo_parts (s : ByteArray) : upTo (partsS 47 s) ((partsS 47 s).length - 1) = pathUp s := by
  unfold upTo partsS pathUp
  rw [List.length_map, ← List.map_take, List.map_map, ← List.dropLast_eq_take]
  congr 2
  conv => rhs; rw [← List.map_id (partsL 47 s.data.toList).dropLast]
  apply List.map_congr_left
  intro x _
  simp [ofL_data]
theorem base_parts (s : ByteArray) : piece (partsS 47 s) ((partsS 47 s).length - 1) = pathBase s := by
  have h : (partsL 47 s.data.toList) ≠ [] := partsL_ne _ _
  unfold pathBase partsS
  have hl : 0 < (partsL 47 s.data.toList).length := List.length_pos_iff.2 h
  rw [piece_eq (by rw [List.length_map]; omega), List.getElem_map, List.getLastD_eq_getLast?, List.getLast?_eq_getElem?, List.getElem?_eq_getElem (by omega)]
  simp
theorem joinL_take : ∀ (L : List (List UInt8)) (k : Nat), (joinL (L.take k)).length ≤ (joinL L).length
  | [], k => by simp
  | [a], 0 => by simp [joinL]
  | [a], k + 1 => by simp
  | a :: b :: t, 0 => by simp [joinL]
  | a :: b :: t, 1 => by simp [joinL]
  | a :: b :: t, k + 2 => by
    have ih := joinL_take (b :: t) (k + 1)
    simp only [List.take_succ_cons] at ih ⊢
    simp only [joinL, List.length_append, List.length_cons]
    omega
theorem upTo_size (s : ByteArray) (k : Nat) : (upTo (partsS 47 s) k).size ≤ s.size := by
  unfold upTo partsS
  rw [← List.map_take, List.map_map, ofL_size]
  have h : (List.map ((fun p : ByteArray => p.data.toList) ∘ ofL) ((partsL 47 s.data.toList).take k)) = (partsL 47 s.data.toList).take k := by
    conv => rhs; rw [← List.map_id ((partsL 47 s.data.toList).take k)]
    apply List.map_congr_left
    intro x _
    simp [ofL_data]
  rw [h]
  refine Nat.le_trans (joinL_take _ _) ?_
  rw [joinL_parts, Lib.size_eq s]
  exact Nat.le_refl _
theorem piece_size (s : ByteArray) (k : Nat) : (piece (partsS 47 s) k).size ≤ s.size := by
  refine piece_le (fun p hp => ?_) k
  unfold partsS at hp
  obtain ⟨q, hq, rfl⟩ := List.mem_map.1 hp
  rw [ofL_size, Lib.size_eq s]
  exact partsL_sizes 47 s.data.toList q hq
end Go.Creel
namespace Go.Proofs.YtaffgndickdbiaaGreatDoor
open Go.Creel Go.RowKit
set_option maxRecDepth 100000 in
set_option maxHeartbeats 2000000 in
theorem PathSplit_any (s : ByteArray) (w : World) (hs : s.size ≤ 4000000000) :
    Calls Tryz.prog 116 #[.string s] w fun e w' => e = .returned (.tuple #[.string (pathUp s), .string (pathBase s)]) ∧ Below w.heap.size w w' := by
  go_enter Tryz.func116, Tryz.ntmps116
  go_wp2_with fail
  refine (parts_any s 47 _ rfl _ hs).mono ?_
  rintro e w1 ⟨v, rfl, ho, hb⟩
  have hlen : (partsS 47 s).length ≤ s.size + 1 := by
    have := partsL_length 47 s.data.toList
    unfold partsS
    rw [List.length_map, Lib.size_eq s]; exact this
  have hne : 0 < (partsS 47 s).length := by
    unfold partsS
    rw [List.length_map]; exact List.length_pos_iff.2 (partsL_ne _ _)
  have HSU := Lib.hid (upTo_size s)
  have HSP := Lib.hid (piece_size s)
  have HU := Lib.hid (upTo_parts s)
  have HP := Lib.hid (base_parts s)
  generalize partsS 47 s = P at *
  have hform := ho.form
  rcases hform with ⟨_, e0⟩ | ⟨g, cap, hv, hgB, hgw, hcap, hcapm⟩
  · rw [e0] at hne; simp at hne
  · subst hv
    have HO := Lib.hid ho
    have HB := Lib.hid hb
    clear ho hb hgB hgw
    go_wp2
    go_loopw [5, 6] (fun u i wr => ∃ k : Nat, k ≤ P.length - 1 ∧ i = .int .i64 k ∧ u = .string (upTo P k) ∧ Below w1.heap.size w1 wr) (fun _ i _ => P.length - (intOf i).toNat)
    case atStart => exact ⟨0, by omega, rfl, by rw [upTo_zero], Below.refl _ _⟩
    case round =>
      obtain ⟨k, hk, rfl, rfl, hb⟩ := hrel
      have HC := Lib.hid (HO.out.below hb)
      have HBB := Lib.hid hb
      clear hb
      by_cases hlt : k < P.length - 1
      · have hc := HC.out.cell (j := k) (by omega)
        have hz1 := HSU.out k
        have hz2 := HSP.out k
        by_cases h0 : 0 < k
        · have HS := Lib.hid (upTo_more (P := P) (k := k) (by omega) h0)
          generalize upTo P k = u at *
          generalize piece P k = p at *
          go_wp2
          go_roundw
          case rel => exact ⟨k + 1, by omega, by go_num, by rw [HS.out]; rfl, HBB.out⟩
          case measure => simp [intOf]; omega
        · obtain rfl : k = 0 := by omega
          have HS := Lib.hid (upTo_one (P := P) (by omega))
          rw [← upTo_zero P] at HS
          generalize upTo P 0 = u at *
          generalize piece P 0 = p at *
          go_wp2
          go_roundw
          case rel => exact ⟨0 + 1, by omega, by go_num, by rw [HS.out], HBB.out⟩
          case measure => simp [intOf]; omega
      · obtain rfl : k = P.length - 1 := by omega
        have hc := HC.out.cell (j := P.length - 1) (by omega)
        have hpi : ((P.length : Int) - 1).toNat = P.length - 1 := by omega
        rw [HP.out] at hc
        rw [HU.out]
        go_wp2
        go_quiet (fail)
        go_wp2
        go_ret2
        exact ⟨rfl, HB.out.trans ((HBB.out.trans (below_draws _ _ _)).mono HB.out.size)⟩
end Go.Proofs.YtaffgndickdbiaaGreatDoor
namespace Go.Creel
theorem conv_bytes {P : Program} {w : World} {N : Nat} {v : Value} {l : List UInt8} (src e dst : TypeId) (hs : P.underlying src = some (.slice e)) (he : P.underlying e = some (.int .u8)) (hd : P.underlying dst = some .string)
    (h : SliceC N 1 ByteC w [v] l) : (convert src dst v).run P w = .ok (.string (ofL l)) w := by
  rcases bytes_cases h with ⟨a, cap, rfl, rfl⟩ | ⟨b, off, cap, rfl, hpos, hle, hm, _, hc⟩
  · cases a with
    | none => exact run_convert_bytes_nil w src e hs he 0 cap dst hd
    | some a =>
      rw [run_convert_bytes_string w src dst e _ 0 cap hs he hd, run_bytesToString w a 0 cap [] (by simp [loadCells, loadCellsFrom])]
      rfl
  · have hx : strOfNums (l.map fun c => (c.toNat : Int)) = ofL l := by
      apply ext_bytes
      rw [strOfNums_data, ofL_data, List.map_map]
      conv => rhs; rw [← List.map_id l]
      apply List.map_congr_left
      intro c _
      simp
    rw [← hx]
    refine run_convert_bytes_arg w src e hs he b off l.length cap _ (by simp) (fun i hi => ?_) dst hd
    rw [hc i hi]
    simp [bl, List.getD_eq_getElem?_getD, List.getElem?_eq_getElem hi]
end Go.Creel
namespace Go.Proofs.YtaffgndickdbiaaGreatDoor
open Go.Creel Go.RowKit
theorem conv (w : World) {N : Nat} {v : Value} {l : List UInt8} (h : SliceC N 1 ByteC w [v] l) : (convert 24 9 v).run Tryz.prog w = .ok (.string (ofL l)) w :=
  conv_bytes _ _ _ Tryz.underlying24 Tryz.underlying5 Tryz.underlying9 h
set_option maxRecDepth 100000 in
theorem sameBytes_eq {N M : Nat} (v u : Value) (l : List UInt8) (w : World) (h1 : SliceC N 1 ByteC w [v] l) (h2 : SliceC M 1 ByteC w [u] l) :
    Calls Tryz.prog 13 #[v, u] w fun e w' => e = .returned (.bool true) ∧ w = w' := by
  have c1 := conv w h1
  have c2 := conv w h2
  clear h1 h2
  go_enter Tryz.func13, Tryz.ntmps13
  go_wp2
  go_ret
  exact ⟨rfl, rfl⟩
end Go.Proofs.YtaffgndickdbiaaGreatDoor
namespace Go.Creel
open Go.RowKit
def entZ : Ent := ⟨.empty, 0, .empty, ⟨0, 0, 0, .empty, .empty, 0, 0⟩, none, 0, []⟩
def ek (l : List Ent) (k : Nat) : Ent := l.getD k entZ
theorem ek_eq {l : List Ent} {k : Nat} (h : k < l.length) : ek l k = l[k] := by simp [ek, List.getD_eq_getElem?_getD, List.getElem?_eq_getElem h]
theorem ek_take {l : List Ent} {i j : Nat} (h : j < i) : ek (l.take i) j = ek l j := by
  simp [ek, List.getD_eq_getElem?_getD, h]
def EntAt (w : World) (b o : Nat) (x : Ent) : Prop := w.cell? ⟨b, o, none⟩ = some (.string x.path) ∧ w.cell? ⟨b, o + 1, none⟩ = some (.int .i64 x.kind) ∧ w.cell? ⟨b, o + 2, none⟩ = some (.string x.target) ∧ w.cell? ⟨b, o + 3, none⟩ = some (.int .i64 x.mt.mode) ∧ w.cell? ⟨b, o + 4, none⟩ = some (.int .i64 x.mt.uid) ∧ w.cell? ⟨b, o + 5, none⟩ = some (.int .i64 x.mt.gid) ∧ w.cell? ⟨b, o + 6, none⟩ = some (.string x.mt.user) ∧ w.cell? ⟨b, o + 7, none⟩ = some (.string x.mt.group) ∧ w.cell? ⟨b, o + 8, none⟩ = some (.int .i64 x.mt.second) ∧ w.cell? ⟨b, o + 9, none⟩ = some (.int .i64 x.mt.nano) ∧ w.cell? ⟨b, o + 10, none⟩ = some (.slice x.da x.data.length x.dcap)
def EntsAt (w : World) (b off : Nat) (l : List Ent) : Prop := ∀ i, i < l.length → EntAt w b (off + i * 11) (ek l i)
theorem EntAt.lt {w : World} {b o : Nat} {x : Ent} (h : EntAt w b o x) : b < w.heap.size := World.block_lt_of_cell? w _ h.1
theorem EntAt.below {w w' : World} {b o : Nat} {x : Ent} (h : EntAt w b o x) (hb : Below w.heap.size w w') : EntAt w' b o x := by
  have hlt := h.lt
  obtain ⟨h0, h1, h2, h3, h4, h5, h6, h7, h8, h9, h10⟩ := h
  exact ⟨(hb.cell (p := ⟨b, o, none⟩) hlt).trans h0, (hb.cell (p := ⟨b, o + 1, none⟩) hlt).trans h1, (hb.cell (p := ⟨b, o + 2, none⟩) hlt).trans h2, (hb.cell (p := ⟨b, o + 3, none⟩) hlt).trans h3, (hb.cell (p := ⟨b, o + 4, none⟩) hlt).trans h4, (hb.cell (p := ⟨b, o + 5, none⟩) hlt).trans h5, (hb.cell (p := ⟨b, o + 6, none⟩) hlt).trans h6, (hb.cell (p := ⟨b, o + 7, none⟩) hlt).trans h7, (hb.cell (p := ⟨b, o + 8, none⟩) hlt).trans h8, (hb.cell (p := ⟨b, o + 9, none⟩) hlt).trans h9, (hb.cell (p := ⟨b, o + 10, none⟩) hlt).trans h10⟩
theorem EntAt.zero {w : World} {b : Nat} {x : Ent} (h : EntAt w b 0 x) : w.cell? ⟨b, 0, none⟩ = some (.string x.path) ∧ w.cell? ⟨b, 1, none⟩ = some (.int .i64 x.kind) ∧ w.cell? ⟨b, 2, none⟩ = some (.string x.target) ∧ w.cell? ⟨b, 3, none⟩ = some (.int .i64 x.mt.mode) ∧ w.cell? ⟨b, 4, none⟩ = some (.int .i64 x.mt.uid) ∧ w.cell? ⟨b, 5, none⟩ = some (.int .i64 x.mt.gid) ∧ w.cell? ⟨b, 6, none⟩ = some (.string x.mt.user) ∧ w.cell? ⟨b, 7, none⟩ = some (.string x.mt.group) ∧ w.cell? ⟨b, 8, none⟩ = some (.int .i64 x.mt.second) ∧ w.cell? ⟨b, 9, none⟩ = some (.int .i64 x.mt.nano) ∧ w.cell? ⟨b, 10, none⟩ = some (.slice x.da x.data.length x.dcap) := h
theorem EntsAt.below {w w' : World} {b off : Nat} {l : List Ent} (h : EntsAt w b off l) (hb : Below w.heap.size w w') : EntsAt w' b off l := fun i hi => (h i hi).below hb
theorem EntsAt.take {w : World} {b off : Nat} {l : List Ent} (h : EntsAt w b off l) (i : Nat) : EntsAt w b off (l.take i) := by
  intro j hj
  have hj' : j < i ∧ j < l.length := by simp at hj; omega
  rw [ek_take hj'.1]
  exact h j hj'.2
theorem Ent.Ok.below {N : Nat} {w w' : World} {x : Ent} (h : x.Ok N w) (hb : Below w.heap.size w w') : x.Ok N w' := ⟨h.path, h.kind, h.target, h.mt, h.data.below (fun _ _ h => h) hb⟩
theorem entAt_box (w : World) (x : Ent) (t : TypeId) : EntAt (w.alloc (.cells #[.string x.path, .int .i64 x.kind, .string x.target, .int .i64 x.mt.mode, .int .i64 x.mt.uid, .int .i64 x.mt.gid, .string x.mt.user, .string x.mt.group, .int .i64 x.mt.second, .int .i64 x.mt.nano, .slice x.da x.data.length x.dcap] t)) w.heap.size 0 x := by
  refine ⟨?_, ?_, ?_, ?_, ?_, ?_, ?_, ?_, ?_, ?_, ?_⟩ <;> simp [World.cell?_alloc_new]
theorem ents_cases {N : Nat} {w : World} {v : Value} {l : List Ent} (h : SliceC N 11 (EntC N) w [v] l) : (∃ a cap, v = .slice a 0 cap ∧ l = [] ∧ cap ≤ maxLen ∧ (a = none → cap = 0)) ∨
    ∃ b off cap, v = .slice (some ⟨b, off, none⟩) l.length cap ∧ 0 < l.length ∧ l.length ≤ cap ∧ cap ≤ maxLen ∧ l.length ≤ N ∧ EntsAt w b off l ∧ ∀ i, i < l.length → (ek l i).Ok N w := by
  obtain ⟨a, cap, hv, h1, h2, h3, h5, h4⟩ := h
  simp only [List.cons.injEq, and_true] at hv
  by_cases hl : 0 < l.length
  · obtain ⟨b, off, rfl, hc⟩ := h4 hl
    refine .inr ⟨b, off, cap, hv, hl, h1, h2, h3, fun i hi => ?_, fun i hi => ?_⟩
    · obtain ⟨c, _, hcc, hE, hn⟩ := hc i hi
      rw [ek_eq hi]
      subst hE
      refine ⟨?_, ?_, ?_, ?_, ?_, ?_, ?_, ?_, ?_, ?_, ?_⟩
      · exact hcc 0 (by omega)
      · exact hcc 1 (by omega)
      · exact hcc 2 (by omega)
      · exact hcc 3 (by omega)
      · exact hcc 4 (by omega)
      · exact hcc 5 (by omega)
      · exact hcc 6 (by omega)
      · exact hcc 7 (by omega)
      · exact hcc 8 (by omega)
      · exact hcc 9 (by omega)
      · exact hcc 10 (by omega)
    · obtain ⟨c, _, hcc, hE, hn⟩ := hc i hi
      rw [ek_eq hi]
      exact hn
  · have : l = [] := by
      cases l with
      | nil => rfl
      | cons x r => simp at hl
    subst this
    exact .inl ⟨a, cap, by simpa using hv, rfl, h2, h5⟩
def entFind : List Ent → ByteArray → Nat
  | [], _ => 0
  | x :: t, s => if x.path = s then 0 else entFind t s + 1
theorem entFind_le : ∀ (l : List Ent) (s : ByteArray), entFind l s ≤ l.length
  | [], _ => Nat.le_refl _
  | x :: t, s => by
    have := entFind_le t s
    unfold entFind
    split <;> simp <;> omega
theorem entFind_at : ∀ {l : List Ent} {s : ByteArray} {k : Nat}, k < l.length → (∀ j, j < k → (ek l j).path ≠ s) → (ek l k).path = s → entFind l s = k
  | [], _, _, h, _, _ => absurd h (by simp)
  | x :: t, s, 0, _, _, he => by unfold entFind; exact if_pos he
  | x :: t, s, k + 1, h, hn, he => by
    unfold entFind
    rw [if_neg (show x.path ≠ s from hn 0 (by omega)), entFind_at (k := k) (by simpa using h) (fun j hj => hn (j + 1) (by omega)) he]
theorem entFind_no : ∀ {l : List Ent} {s : ByteArray}, (∀ j, j < l.length → (ek l j).path ≠ s) → entFind l s = l.length
  | [], _, _ => rfl
  | x :: t, s, hn => by
    unfold entFind
    rw [if_neg (show x.path ≠ s from hn 0 (by simp)), entFind_no (fun j hj => hn (j + 1) (by simpa using hj))]
    rfl
theorem entFind_lt : ∀ {l : List Ent} {s : ByteArray}, entFind l s < l.length → (ek l (entFind l s)).path = s
  | [], _, h => absurd h (by simp)
  | x :: t, s, h => by
    unfold entFind at h ⊢
    by_cases e : x.path = s
    · rw [if_pos e]; exact e
    · rw [if_neg e] at h ⊢
      have h' : entFind t s < t.length := by simp at h; omega
      exact entFind_lt h'
theorem entFind_ne : ∀ {l : List Ent} {s : ByteArray} {j : Nat}, j < entFind l s → (ek l j).path ≠ s
  | [], _, _, h => absurd h (by simp [entFind])
  | x :: t, s, j, h => by
    unfold entFind at h
    by_cases e : x.path = s
    · rw [if_pos e] at h; omega
    · rw [if_neg e] at h
      cases j with
      | zero => exact e
      | succ j => exact entFind_ne (l := t) (by omega)
theorem entFind_take {l : List Ent} {s : ByteArray} {k : Nat} (hk : k < l.length) (h : entFind (l.take k) s < k) : entFind (l.take (k + 1)) s = entFind (l.take k) s := by
  have h1 := entFind_lt (l := l.take k) (s := s) (by rw [List.length_take]; omega)
  rw [ek_take h] at h1
  refine entFind_at (by rw [List.length_take]; omega) (fun j hj => ?_) (by rw [ek_take (by omega)]; exact h1)
  have := entFind_ne (l := l.take k) (s := s) hj
  rw [ek_take (by omega)] at this ⊢
  exact this
theorem entFind_not {l : List Ent} {s : ByteArray} {k : Nat} (hk : k ≤ l.length) (h : ¬ entFind (l.take k) s < k) : ∀ j, j < k → (ek l j).path ≠ s := by
  intro j hj
  have := entFind_ne (l := l.take k) (s := s) (j := j) (by omega)
  rwa [ek_take hj] at this
theorem entFind_none {l : List Ent} {s : ByteArray} {k : Nat} (hk : k ≤ l.length) (h : ∀ j, j < k → (ek l j).path ≠ s) : entFind (l.take k) s = k := by
  have hl : (l.take k).length = k := by rw [List.length_take]; omega
  have := entFind_no (l := l.take k) (s := s) (fun j hj => by rw [hl] at hj; rw [ek_take hj]; exact h j hj)
  rw [this, hl]
theorem cmpS_zero {x y : ByteArray} : cmpS x y = 0 ↔ x = y := by
  rcases cmpS_cases x y with ⟨h1, h3⟩ | ⟨h1, h2, h3⟩ | ⟨h1, h2, h3⟩
  · rw [h3]
    refine ⟨fun e => (by cases e), fun e => ?_⟩
    subst e
    rw [Go.Proofs.bytesLess_eq] at h1
    exact absurd (of_decide_eq_true h1) (List.lt_irrefl _)
  · exact ⟨fun _ => toList_inj (by simpa using h2), fun _ => h3⟩
  · rw [h3]
    refine ⟨fun e => (by cases e), fun e => ?_⟩
    subst e
    simp at h2
theorem cmpS_neg {x y : ByteArray} : cmpS x y = -1 ↔ x.toList < y.toList := by
  rcases cmpS_cases x y with ⟨h1, h3⟩ | ⟨h1, h2, h3⟩ | ⟨h1, h2, h3⟩
  · rw [Go.Proofs.bytesLess_eq] at h1
    exact ⟨fun _ => of_decide_eq_true h1, fun _ => h3⟩
  · rw [h3]
    rw [Go.Proofs.bytesLess_eq] at h1
    exact ⟨fun e => (by cases e), fun e => absurd e (of_decide_eq_false h1)⟩
  · rw [h3]
    rw [Go.Proofs.bytesLess_eq] at h1
    exact ⟨fun e => (by cases e), fun e => absurd e (of_decide_eq_false h1)⟩
theorem cmpS_tr {x y z : ByteArray} (h1 : cmpS x y = -1) (h2 : cmpS y z = -1) : cmpS x z = -1 := cmpS_neg.2 (List.lt_trans (cmpS_neg.1 h1) (cmpS_neg.1 h2))
theorem cmpS_self (x : ByteArray) : cmpS x x = 0 := cmpS_zero.2 rfl
theorem ordP_self : ∀ X : List ByteArray, ordP X X = 0
  | [] => rfl
  | x :: X => by unfold ordP; rw [if_pos (cmpS_self x)]; exact ordP_self X
theorem ordP_cons {x y : ByteArray} {X Y : List ByteArray} : ordP (x :: X) (y :: Y) = if cmpS x y = 0 then ordP X Y else cmpS x y := rfl
theorem ordP_tr : ∀ {X Y Z : List ByteArray}, ordP X Y = -1 → ordP Y Z = -1 → ordP X Z = -1
  | [], [], _, h1, _ => by cases h1
  | [], _ :: _, [], _, h2 => by cases h2
  | [], _ :: _, _ :: _, _, _ => rfl
  | _ :: _, [], _, h1, _ => by cases h1
  | _ :: _, _ :: _, [], _, h2 => by cases h2
  | x :: X, y :: Y, z :: Z, h1, h2 => by
    rw [ordP_cons] at h1 h2 ⊢
    by_cases e1 : cmpS x y = 0
    · rw [if_pos e1] at h1
      obtain rfl := cmpS_zero.1 e1
      by_cases e2 : cmpS x z = 0
      · rw [if_pos e2] at h2 ⊢
        exact ordP_tr h1 h2
      · rw [if_neg e2] at h2 ⊢
        exact h2
    · rw [if_neg e1] at h1
      by_cases e2 : cmpS y z = 0
      · obtain rfl := cmpS_zero.1 e2
        rw [if_neg e1]
        exact h1
      · rw [if_neg e2] at h2
        have := cmpS_tr h1 h2
        rw [if_neg (by rw [this]; decide)]
        exact this
theorem chain_ne {p : Nat → ByteArray} {k : Nat} (h : ∀ i, 0 < i → i ≤ k → ordP (pathParts (p (i - 1))) (pathParts (p i)) = -1) : ∀ j, j < k → p j ≠ p k := by
  have key : ∀ d j, j + d + 1 ≤ k → ordP (pathParts (p j)) (pathParts (p (j + d + 1))) = -1 := by
    intro d
    induction d with
    | zero => intro j hj; have := h (j + 1) (by omega) hj; simpa using this
    | succ d ih =>
      intro j hj
      have h1 := ih j (by omega)
      have h2 := h (j + d + 2) (by omega) (by omega)
      exact ordP_tr h1 (by simpa [Nat.add_assoc] using h2)
  intro j hj e
  have := key (k - j - 1) j (by omega)
  rw [show j + (k - j - 1) + 1 = k by omega, e, ordP_self] at this
  cases this
end Go.Creel
namespace Go.Proofs.YtaffgndickdbiaaGreatDoor
open Go.Creel Go.RowKit Go.ChangeShapes
section
variable {H : Type} {enc : TypeId × Value → H} {W : World} {S : DataW H → Prop} {N : Nat}
theorem opens_Entries (hS : Bd H S N) : Opens enc Tryz.prog W S 32 (SliceC N 11 (EntC N)) := opens_slice hS Tryz.underlying32 (by kernel_rfl) (by decide) (opens_Entry hS)
end
set_option maxRecDepth 100000 in
theorem EntryAt_at (b off cap : Nat) (l : List Ent) (s : ByteArray) (w : World) (hle : l.length ≤ cap) (hm : cap ≤ maxLen) (hc : EntsAt w b off l) :
    Calls Tryz.prog 63 #[.slice (some ⟨b, off, none⟩) l.length cap, .string s] w fun e w' => e = .returned (.int .i64 (entFind l s)) ∧ w = w' := by
  unfold maxLen at hm
  have HC := Lib.hid hc
  clear hc
  go_enter Tryz.func63, Tryz.ntmps63
  go_wp2
  go_loop [5] (fun i => ∃ k : Nat, k ≤ l.length ∧ i = .int .i64 k ∧ Hid (∀ j, j < k → (ek l j).path ≠ s)) (fun i => l.length - (intOf i).toNat)
  case atStart => exact ⟨0, by omega, rfl, Lib.hid fun j hj => absurd hj (by omega)⟩
  case round =>
    obtain ⟨k, hk, rfl, HD⟩ := hrel
    by_cases hlt : k < l.length
    · obtain ⟨h0, _⟩ := HC.out k hlt
      by_cases he : (ek l k).path = s
      · have hb := seq_t he
        have HF := Lib.hid (entFind_at hlt HD.out he)
        clear he
        go_wp2
        go_ret
        exact ⟨ret_i (by rw [HF.out]), rfl⟩
      · have hb := seq_f he
        have HE := Lib.hid he
        clear he
        go_wp2
        go_round
        case rel => exact ⟨k + 1, by omega, by go_num, Lib.hid fun j hj => by
          by_cases e : j = k
          · rw [e]; exact HE.out
          · exact HD.out j (by omega)⟩
        case measure => simp [intOf]; omega
    · obtain rfl : k = l.length := by omega
      have HF := Lib.hid (entFind_no HD.out)
      go_wp2
      go_ret
      exact ⟨ret_i (by rw [HF.out]), rfl⟩
theorem ents_below {N : Nat} {w w' : World} {v : Value} {l : List Ent} (h : SliceC N 11 (EntC N) w [v] l) (hb : Below w.heap.size w w') : SliceC N 11 (EntC N) w' [v] l :=
  h.below (fun _ _ ⟨h1, h2⟩ => ⟨h1, h2.below hb⟩) hb
end Go.Proofs.YtaffgndickdbiaaGreatDoor
